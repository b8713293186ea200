/- table: the chapter's example, called. table: entries compared; a generation's lowest bit. table: the law TableAgain, called. table: what a call does to slots, in plain words; the law's at. table: the law TableWhole, called. -/
import Derived.Test.YtmkknjhalcocmaaJ18
import Derived.Test.YtmkknjhalcocmaaJ13
import Derived.Laws.StructEq
import Derived.Laws.Bits64b
import Derived.Deep.CutRange
import Derived.Deep.CutBlock
import Derived.Deep.LoopGhost
namespace Go.Proofs.Ytmkknjhalcocmaa
open Go Go.RowKit Go.Deep Go.Maps Go.ChangeMaps

theorem right_idle {a b c d G : Int} (h : rightS a b c d = true) : TCfg.right ⟨a, b, c, d, G⟩ := by
  intro st
  unfold rightS okT at h
  simp at h
  show 0 ≤ idleS a b c d st ∧ idleS a b c d st ≤ 1048576
  unfold idleS
  repeat' split
  all_goals omega
abbrev awT : Tup := ⟨17, false, 0, 0, false, 0, 0, 0, 0⟩
def awC : TCfg := ⟨1, 1, 1, 1, 1⟩
def awS0 : TSt := ⟨0, [], upto 1 0, fun k => { slt0 with sl := k }, 0⟩
def awS1 : TSt := openS awC 1 awS0 awT 1 0
def awS2 : TSt := openS awC 1 awS1 awT 1 0
def awS3 : TSt := closeS 1 awS2 0
theorem aw_facts : openE awS0 awT 1 0 = 0 ∧ (openV awC awS0 awT 1 0).gen = 0 ∧ openE awS1 awT 1 0 = 9 ∧ closeOk 1 awS2 0 = true ∧ openE awS3 awT 1 0 = 0 ∧ (openV awC awS3 awT 1 0).sl = 0 ∧ (openV awC awS3 awT 1 0).gen = 1 := by
  refine ⟨?_, ?_, ?_, ?_, ?_, ?_, ?_⟩ <;> rfl
set_option maxRecDepth 100000 in
set_option maxHeartbeats 8000000 in
theorem awake19 (w : World) : Calls Try.prog 6 #[] w fun e w' => e = .returned (.bool true) ∧ Below w.heap.size w w' := by
  obtain ⟨e1, e2, e3, e4, e5, e6, e7⟩ := aw_facts
  have P0 := Blk.new w 39 awT.cells.toArray
  have hb0 : Below w.heap.size w (w.alloc (.cells awT.cells.toArray 39)) := below_alloc (Below.refl _ _) _
  go_enter Try.func6, Try.ntmps6
  go_upto_region 2 with fail
  change Code.wp _ _ _ _ (w.alloc (.cells awT.cells.toArray 39))
  obtain ⟨p, hp⟩ : ∃ p, w.heap.size = p := ⟨_, rfl⟩
  have hpw : w.heap.size ≤ p := Nat.le_of_eq hp
  rw [hp] at P0
  generalize w.alloc (.cells awT.cells.toArray 39) = w1 at *
  try rw [hp]
  have NW : Calls Try.prog 7 #[.int .i64 0, .agg #[.int .i64 1, .int .i64 1, .int .i64 1, .int .i64 1], .int .i64 1] w1 _ := tabn_new (w0 := w) (w := w1) (K := fun b => b = p) 0 (by omega) 1 1 1 1 rfl 1 (by omega) hb0 (fun b hb => by have := P0.lt; omega) (right_idle rfl)
  replace NW := Lib.hid NW
  go_upto_region 3 with (go_at_call 7; (with_reducible refine NW.out.mono ?_); rintro e w2 ⟨g, sb, rfl, hT0, hb1⟩)
  have hT : TabN w w2 g sb 1 awC awS0 (fun b => b = p) := hT0
  have P := P0.call hb1
  clear P0 hb1 NW hT0
  have hpl := P.lt
  have hK : ∀ b, (b = p) → b < w2.heap.size := fun b hb => by omega
  have q0 : w2.cell? ⟨p, 0, none⟩ = some (.int .i64 17) := P.cell 0
  have q1 : w2.cell? ⟨p, 1, none⟩ = some (.bool false) := P.cell 1
  have q2 : w2.cell? ⟨p, 2, none⟩ = some (.int .u64 0) := P.cell 2
  have q3 : w2.cell? ⟨p, 3, none⟩ = some (.int .u64 0) := P.cell 3
  have q4 : w2.cell? ⟨p, 4, none⟩ = some (.bool false) := P.cell 4
  have q5 : w2.cell? ⟨p, 5, none⟩ = some (.int .u64 0) := P.cell 5
  have q6 : w2.cell? ⟨p, 6, none⟩ = some (.int .u64 0) := P.cell 6
  have q7 : w2.cell? ⟨p, 7, none⟩ = some (.int .i64 0) := P.cell 7
  have q8 : w2.cell? ⟨p, 8, none⟩ = some (.int .i64 0) := P.cell 8
  have OP : Calls Try.prog 11 #[.pointer (some ⟨g, 0, none⟩), .agg #[.int .i64 17, .bool false, .int .u64 0, .int .u64 0, .bool false, .int .u64 0, .int .u64 0, .int .i64 0, .int .i64 0], .int .i64 1, .int .i64 0] w2 _ := tabn_open hT hK awT 1 0
  rw [e1] at OP
  obtain ⟨x2, hx2⟩ : ∃ x, openV awC awS0 awT 1 0 = x := ⟨_, rfl⟩
  rw [hx2] at OP
  replace OP := Lib.hid OP
  replace hx2 := Lib.hid hx2
  replace hT := Lib.hid hT
  go_upto_region 4 with (go_at_call 11; (with_reducible refine OP.out.mono ?_); rintro e v2 ⟨rfl, hT2, hc⟩)
  change Code.wp _ _ _ _ (v2.alloc (.cells x2.entA 43))
  have P2 := P.chg hc (fun e => e.2 (by simp))
  have B := Blk.new v2 43 x2.entA
  have hal := below_alloc (Below.refl v2.heap.size v2) (.cells x2.entA 43)
  have P3 := P2.call hal
  have hT3 := hT2.alloc (.cells x2.entA 43)
  obtain ⟨r2, hr2⟩ : ∃ r, v2.heap.size = r := ⟨_, rfl⟩
  rw [hr2] at B hT3
  try rw [hr2]
  generalize v2.alloc (.cells x2.entA 43) = w3 at *
  clear OP hT hT2 hc P2 P hK hal hpl  q0 q1 q2 q3 q4 q5 q6 q7 q8
  rename Blk w3 p _ _ => P
  have Br2 := B
  clear B
  have hT : TabN w w3 g sb 1 awC (awS1) (fun b => b = p ∨ b = r2) := hT3.mono (fun b hb => by omega)
  clear hT3
  have hpl := P.lt
  have hlr2 := Br2.lt
  have hK : ∀ b, (b = p ∨ b = r2) → b < w3.heap.size := fun b hb => by omega
  have q0 : w3.cell? ⟨p, 0, none⟩ = some (.int .i64 17) := P.cell 0
  have q1 : w3.cell? ⟨p, 1, none⟩ = some (.bool false) := P.cell 1
  have q2 : w3.cell? ⟨p, 2, none⟩ = some (.int .u64 0) := P.cell 2
  have q3 : w3.cell? ⟨p, 3, none⟩ = some (.int .u64 0) := P.cell 3
  have q4 : w3.cell? ⟨p, 4, none⟩ = some (.bool false) := P.cell 4
  have q5 : w3.cell? ⟨p, 5, none⟩ = some (.int .u64 0) := P.cell 5
  have q6 : w3.cell? ⟨p, 6, none⟩ = some (.int .u64 0) := P.cell 6
  have q7 : w3.cell? ⟨p, 7, none⟩ = some (.int .i64 0) := P.cell 7
  have q8 : w3.cell? ⟨p, 8, none⟩ = some (.int .i64 0) := P.cell 8
  have OP : Calls Try.prog 11 #[.pointer (some ⟨g, 0, none⟩), .agg #[.int .i64 17, .bool false, .int .u64 0, .int .u64 0, .bool false, .int .u64 0, .int .u64 0, .int .i64 0, .int .i64 0], .int .i64 1, .int .i64 0] w3 _ := tabn_open hT hK awT 1 0
  rw [e3] at OP
  obtain ⟨x3, hx3⟩ : ∃ x, openV awC awS1 awT 1 0 = x := ⟨_, rfl⟩
  rw [hx3] at OP
  replace OP := Lib.hid OP
  replace hx3 := Lib.hid hx3
  replace hT := Lib.hid hT
  go_upto_region 5 with (go_at_call 11; (with_reducible refine OP.out.mono ?_); rintro e v3 ⟨rfl, hT2, hc⟩)
  change Code.wp _ _ _ _ (v3.alloc (.cells x3.entA 43))
  have P2 := P.chg hc (fun e => e.2 (by simp))
  have B2r2 := Br2.chg hc (fun e => e.2 (by simp))
  have B := Blk.new v3 43 x3.entA
  have hal := below_alloc (Below.refl v3.heap.size v3) (.cells x3.entA 43)
  have P3 := P2.call hal
  have B3r2 := B2r2.call hal
  have hT3 := hT2.alloc (.cells x3.entA 43)
  obtain ⟨r3, hr3⟩ : ∃ r, v3.heap.size = r := ⟨_, rfl⟩
  rw [hr3] at B hT3
  try rw [hr3]
  generalize v3.alloc (.cells x3.entA 43) = w4 at *
  clear OP hT hT2 hc P2 P hK hal hpl B2r2 Br2 hlr2 q0 q1 q2 q3 q4 q5 q6 q7 q8
  rename Blk w4 p _ _ => P
  rename Blk w4 r2 _ _ => Br2
  clear B
  have hT : TabN w w4 g sb 1 awC (awS2) (fun b => b = p ∨ b = r2) := hT3.mono (fun b hb => by omega)
  clear hT3
  have hpl := P.lt
  have hlr2 := Br2.lt
  have hK : ∀ b, (b = p ∨ b = r2) → b < w4.heap.size := fun b hb => by omega
  have OP : Calls Try.prog 14 #[.pointer (some ⟨g, 0, none⟩), .int .i64 0] w4 _ := tabn_close hT hK 0
  rw [e4] at OP
  obtain ⟨x4, hx4⟩ : ∃ x, closeV 1 awS2 0 = x := ⟨_, rfl⟩
  rw [hx4] at OP
  replace OP := Lib.hid OP
  replace hx4 := Lib.hid hx4
  replace hT := Lib.hid hT
  go_upto_region 6 with (go_at_call 14; (with_reducible refine OP.out.mono ?_); rintro e v4 ⟨rfl, hT2, hc⟩)
  change Code.wp _ _ _ _ (v4.alloc (.cells x4.entA 43))
  have P2 := P.chg hc (fun e => e.2 (by simp))
  have B2r2 := Br2.chg hc (fun e => e.2 (by simp))
  have B := Blk.new v4 43 x4.entA
  have hal := below_alloc (Below.refl v4.heap.size v4) (.cells x4.entA 43)
  have P3 := P2.call hal
  have B3r2 := B2r2.call hal
  have hT3 := hT2.alloc (.cells x4.entA 43)
  obtain ⟨r4, hr4⟩ : ∃ r, v4.heap.size = r := ⟨_, rfl⟩
  rw [hr4] at B hT3
  try rw [hr4]
  generalize v4.alloc (.cells x4.entA 43) = w5 at *
  clear OP hT hT2 hc P2 P hK hal hpl B2r2 Br2 hlr2
  rename Blk w5 p _ _ => P
  rename Blk w5 r2 _ _ => Br2
  clear B
  have hT : TabN w w5 g sb 1 awC (awS3) (fun b => b = p ∨ b = r2) := hT3.mono (fun b hb => by omega)
  clear hT3
  have hpl := P.lt
  have hlr2 := Br2.lt
  have hK : ∀ b, (b = p ∨ b = r2) → b < w5.heap.size := fun b hb => by omega
  have q0 : w5.cell? ⟨p, 0, none⟩ = some (.int .i64 17) := P.cell 0
  have q1 : w5.cell? ⟨p, 1, none⟩ = some (.bool false) := P.cell 1
  have q2 : w5.cell? ⟨p, 2, none⟩ = some (.int .u64 0) := P.cell 2
  have q3 : w5.cell? ⟨p, 3, none⟩ = some (.int .u64 0) := P.cell 3
  have q4 : w5.cell? ⟨p, 4, none⟩ = some (.bool false) := P.cell 4
  have q5 : w5.cell? ⟨p, 5, none⟩ = some (.int .u64 0) := P.cell 5
  have q6 : w5.cell? ⟨p, 6, none⟩ = some (.int .u64 0) := P.cell 6
  have q7 : w5.cell? ⟨p, 7, none⟩ = some (.int .i64 0) := P.cell 7
  have q8 : w5.cell? ⟨p, 8, none⟩ = some (.int .i64 0) := P.cell 8
  have OP : Calls Try.prog 11 #[.pointer (some ⟨g, 0, none⟩), .agg #[.int .i64 17, .bool false, .int .u64 0, .int .u64 0, .bool false, .int .u64 0, .int .u64 0, .int .i64 0, .int .i64 0], .int .i64 1, .int .i64 0] w5 _ := tabn_open hT hK awT 1 0
  rw [e5] at OP
  obtain ⟨x5, hx5⟩ : ∃ x, openV awC awS3 awT 1 0 = x := ⟨_, rfl⟩
  rw [hx5] at OP
  replace OP := Lib.hid OP
  replace hx5 := Lib.hid hx5
  replace hT := Lib.hid hT
  go_upto_region 7 with (go_at_call 11; (with_reducible refine OP.out.mono ?_); rintro e v5 ⟨rfl, hT2, hc⟩)
  change Code.wp _ _ _ _ (v5.alloc (.cells x5.entA 43))
  have P2 := P.chg hc (fun e => e.2 (by simp))
  have B2r2 := Br2.chg hc (fun e => e.2 (by simp))
  have B := Blk.new v5 43 x5.entA
  have hal := below_alloc (Below.refl v5.heap.size v5) (.cells x5.entA 43)
  have P3 := P2.call hal
  have B3r2 := B2r2.call hal
  have hT3 := hT2.alloc (.cells x5.entA 43)
  obtain ⟨r5, hr5⟩ : ∃ r, v5.heap.size = r := ⟨_, rfl⟩
  rw [hr5] at B hT3
  try rw [hr5]
  generalize v5.alloc (.cells x5.entA 43) = w6 at *
  clear OP hT hT2 hc P2 P hK hal hpl B2r2 Br2 hlr2 q0 q1 q2 q3 q4 q5 q6 q7 q8
  rename Blk w6 p _ _ => P
  rename Blk w6 r2 _ _ => Br2
  have Br5 := B
  clear B
  have hT : TabN w w6 g sb 1 awC (openS awC 1 awS3 awT 1 0) (fun b => b = p ∨ b = r2 ∨ b = r5) := hT3.mono (fun b hb => by omega)
  clear hT3
  have hbT := hT.below
  have g2 : w6.cell? ⟨r2, 12, none⟩ = some (.int .u64 0) := (Br2.cell 12).trans (by simp only [← hx2.out]; rfl)
  have g5 : w6.cell? ⟨r5, 11, none⟩ = some (.int .i64 0) := (Br5.cell 11).trans (by simp only [← hx5.out]; rfl)
  have g6 : w6.cell? ⟨r5, 12, none⟩ = some (.int .u64 1) := (Br5.cell 12).trans (by simp only [← hx5.out]; rfl)
  have HC := Lib.hid fun W (hb : Below w6.heap.size w6 W) => show W.cell? ⟨r2, 12, none⟩ = some (.int .u64 0) ∧ W.cell? ⟨r5, 11, none⟩ = some (.int .i64 0) ∧ W.cell? ⟨r5, 12, none⟩ = some (.int .u64 1) from ⟨(hb.cell (block_lt_of_cell g2)).trans g2, (hb.cell (block_lt_of_cell g5)).trans g5, (hb.cell (block_lt_of_cell g6)).trans g6⟩
  clear g2 g5 g6 hT Br2 Br5 e1 e2 e3 e4 e5 e6 e7 hx2 hx3 hx4 hx5 hr2 hr3 hr4 hr5
  have Z := Blk.new w6 71 tabZ
  have hb6 := below_alloc (Below.refl w6.heap.size w6) (.cells tabZ 71)
  have P7 := P.call hb6
  go_upto_region 9 with fail
  change Code.wp _ _ _ _ (w6.alloc (.cells tabZ 71))
  obtain ⟨z, hz⟩ : ∃ z, w6.heap.size = z := ⟨_, rfl⟩
  rw [hz] at Z
  try rw [hz]
  generalize w6.alloc (.cells tabZ 71) = w7 at *
  clear P
  have q0 : w7.cell? ⟨p, 0, none⟩ = some (.int .i64 17) := P7.cell 0
  have q1 : w7.cell? ⟨p, 1, none⟩ = some (.bool false) := P7.cell 1
  have q2 : w7.cell? ⟨p, 2, none⟩ = some (.int .u64 0) := P7.cell 2
  have q3 : w7.cell? ⟨p, 3, none⟩ = some (.int .u64 0) := P7.cell 3
  have q4 : w7.cell? ⟨p, 4, none⟩ = some (.bool false) := P7.cell 4
  have q5 : w7.cell? ⟨p, 5, none⟩ = some (.int .u64 0) := P7.cell 5
  have q6 : w7.cell? ⟨p, 6, none⟩ = some (.int .u64 0) := P7.cell 6
  have q7 : w7.cell? ⟨p, 7, none⟩ = some (.int .i64 0) := P7.cell 7
  have q8 : w7.cell? ⟨p, 8, none⟩ = some (.int .i64 0) := P7.cell 8
  have ON : Calls Try.prog 11 #[.pointer none, .agg #[.int .i64 17, .bool false, .int .u64 0, .int .u64 0, .bool false, .int .u64 0, .int .u64 0, .int .i64 0, .int .i64 0], .int .i64 1, .int .i64 0] w7 _ := tab_open_nil awT 1 0 w7
  replace ON := Lib.hid ON
  go_upto_region 10 with (go_at_call 11; (with_reducible refine ON.out.mono ?_); rintro e w8 ⟨rfl, hb7⟩)
  change Code.wp _ _ _ _ (w8.alloc (.cells slt0.entA 43))
  have hb8 := below_alloc hb7 (.cells slt0.entA 43)
  have P9 := P7.call hb8
  have Z9 := Z.call hb8
  generalize w8.alloc (.cells slt0.entA 43) = w9 at *
  clear ON q0 q1 q2 q3 q4 q5 q6 q7 q8 P7 Z hb7
  have GP := Lib.hid (tab_go_plain Z9 1)
  have q0 : w9.cell? ⟨p, 0, none⟩ = some (.int .i64 17) := P9.cell 0
  have q1 : w9.cell? ⟨p, 1, none⟩ = some (.bool false) := P9.cell 1
  have q2 : w9.cell? ⟨p, 2, none⟩ = some (.int .u64 0) := P9.cell 2
  have q3 : w9.cell? ⟨p, 3, none⟩ = some (.int .u64 0) := P9.cell 3
  have q4 : w9.cell? ⟨p, 4, none⟩ = some (.bool false) := P9.cell 4
  have q5 : w9.cell? ⟨p, 5, none⟩ = some (.int .u64 0) := P9.cell 5
  have q6 : w9.cell? ⟨p, 6, none⟩ = some (.int .u64 0) := P9.cell 6
  have q7 : w9.cell? ⟨p, 7, none⟩ = some (.int .i64 0) := P9.cell 7
  have q8 : w9.cell? ⟨p, 8, none⟩ = some (.int .i64 0) := P9.cell 8
  have FN : Calls Try.prog 12 #[.pointer none, .agg #[.int .i64 17, .bool false, .int .u64 0, .int .u64 0, .bool false, .int .u64 0, .int .u64 0, .int .i64 0, .int .i64 0], .int .i64 0, .int .u64 0, .int .i64 0] w9 _ := tab_find_nil awT 0 0 0 w9
  replace FN := Lib.hid FN
  go_upto_region 12 with (first
    | (go_at_call 15; (with_reducible refine GP.out.mono ?_); rintro e w10 ⟨rfl, rfl⟩)
    | (go_at_call 12; (with_reducible refine FN.out.mono ?_); rintro e w10 ⟨rfl, hb9⟩))
  change Code.wp _ _ _ _ (w10.alloc (.cells slt0.entA 43))
  have hb10 := below_alloc hb9 (.cells slt0.entA 43)
  have Z11 := Z9.call hb10
  generalize w10.alloc (.cells slt0.entA 43) = w11 at *
  have hb611 := below_chain hb10 (below_chain hb8 hb6)
  have hbF := below_chain hb611 hbT
  obtain ⟨g2, g5, g6⟩ := HC.out _ hb611
  clear FN GP q0 q1 q2 q3 q4 q5 q6 q7 q8 P9 Z9 hb9 hb10 hb8 hb6 HC hb0
  have LP := Lib.hid (tab_looks_plain Z11)
  have DP := Lib.hid (tab_drop_plain Z11 1)
  go_wp2_with (first
    | (go_at_call 17; (with_reducible refine (tab_free_nil _).mono ?_); rintro e v8 ⟨rfl, rfl⟩)
    | (go_at_call 9; (with_reducible refine LP.out.mono ?_); rintro e v8 ⟨rfl, rfl⟩)
    | (go_at_call 8; (with_reducible refine (tab_live_nil _).mono ?_); rintro e v8 ⟨rfl, rfl⟩)
    | (go_at_call 16; (with_reducible refine DP.out.mono ?_); rintro e v9 ⟨rfl, hb12⟩))
  go_ret
  exact ⟨rfl, below_chain hb12 hbF⟩
end Go.Proofs.Ytmkknjhalcocmaa

namespace Go.Proofs.Ytmkknjhalcocmaa
open Go Go.RowKit Go.Deep Go.Maps Go.ChangeMaps

theorem tup_eql (t u : Tup) (w : World) : (binOp .eql 39 t.val u.val).run Try.prog w = .ok (.bool (tupB t u)) w := by
  have h := tup_neq t u w
  rw [run_neq_struct] at h
  rw [run_eql_struct]
  cases hh : (Op.equalIn 10000 39 t.val u.val).run Try.prog w with
  | ok b w' =>
    rw [hh] at h
    simp only [Result.andThen] at h ⊢
    simp only [Result.ok.injEq, Value.bool.injEq] at h
    obtain ⟨h1, rfl⟩ := h
    have : b = tupB t u := by cases b <;> cases hq : tupB t u <;> simp_all
    rw [this]
  | _ => rw [hh] at h; simp [Result.andThen] at h
theorem tupB_comm (t u : Tup) : tupB t u = tupB u t := by
  rw [Bool.eq_iff_iff, tupB_iff, tupB_iff]
  exact eq_comm
theorem tupB_self (t : Tup) : tupB t t = true := tupB_iff.2 rfl
/-- Are entries one? -/
def entB (x y : Slt) : Bool := tupB x.t y.t && (x.bk == y.bk && (x.st == y.st && (x.sl == y.sl && (x.gen == y.gen && x.due == y.due))))
theorem ent_eql (x y : Slt) (w : World) : (binOp .eql 43 x.val y.val).run Try.prog w = .ok (.bool (entB x y)) w := by
  have u3 := Try.underlying3
  have a3 := Try.isAgg3
  have z3 := Try.sizeOf3
  have u4 := Try.underlying34
  have a4 := Try.isAgg34
  have z4 := Try.sizeOf34
  have u5 := Try.underlying4
  have a5 := Try.isAgg4
  have z5 := Try.sizeOf4
  have a6 := Try.isAgg37
  have z6 := Try.sizeOf37
  have a7 := Try.isAgg39
  have z7 := Try.sizeOf39
  have hS : Try.prog.underlying 43 = some (.struct (Try.prog.fieldsOf 43)) := by kernel_rfl
  have hp : Try.prog.stoodInHeld 43 = false := by kernel_rfl
  have hS1 : Try.prog.underlying 39 = some (.struct (Try.prog.fieldsOf 39)) := by kernel_rfl
  have hp1 : Try.prog.stoodInHeld 39 = false := by kernel_rfl
  have hS2 : Try.prog.underlying 37 = some (.struct (Try.prog.fieldsOf 37)) := by kernel_rfl
  have hp2 : Try.prog.stoodInHeld 37 = false := by kernel_rfl
  have hA := fun (d : Nat) (xs ys : Array Value) => run_equalIn_agg w d 37 xs ys hS2 hp2
  have hT := fun (d : Nat) (xs ys : Array Value) => run_equalIn_agg w d 39 xs ys hS1 hp1
  rw [run_eql_struct, show (10000 : Nat) = 9999 + 1 from rfl, run_equalIn_agg w 9999 43 _ _ hS hp]
  clear hS hp hS2 hp2 hS1 hp1
  simp only [Program.fieldsOf, Try.underlying43, Try.underlying39, Try.underlying37] at hA hT ⊢
  unfold entB tupB
  obtain ⟨⟨a1, a2, a3, a4, a5, a6, a7, a8, a9⟩, b1, b2, b3, b4, b5, -⟩ := x
  obtain ⟨⟨c1, c2, c3, c4, c5, c6, c7, c8, c9⟩, d1, d2, d3, d4, d5, -⟩ := y
  go_simp
  by_cases h1 : a1 = c1
  case neg => simp [h1]
  by_cases h2 : a2 = c2
  case neg => simp [h1, h2]
  by_cases h3 : a3 = c3
  case neg =>
    have g3 : ¬ ((a3 : Int) = (c3 : Int)) := by omega
    simp [h1, h2, h3, g3]
  by_cases h4 : a4 = c4
  case neg =>
    have g4 : ¬ ((a4 : Int) = (c4 : Int)) := by omega
    simp [h1, h2, h3, h4, g4]
  by_cases h5 : a5 = c5
  case neg => simp [h1, h2, h3, h4, h5]
  by_cases h6 : a6 = c6
  case neg =>
    have g6 : ¬ ((a6 : Int) = (c6 : Int)) := by omega
    simp [h1, h2, h3, h4, h5, h6, g6]
  by_cases h7 : a7 = c7
  case neg =>
    have g7 : ¬ ((a7 : Int) = (c7 : Int)) := by omega
    simp [h1, h2, h3, h4, h5, h6, h7, g7]
  by_cases h8 : a8 = c8
  case neg => simp [h1, h2, h3, h4, h5, h6, h7, h8]
  by_cases h9 : a9 = c9
  case neg => simp [h1, h2, h3, h4, h5, h6, h7, h8, h9]
  by_cases k1 : b1 = d1
  case neg => simp [h1, h2, h3, h4, h5, h6, h7, h8, h9, k1]
  by_cases k2 : b2 = d2
  case neg => simp [h1, h2, h3, h4, h5, h6, h7, h8, h9, k1, k2]
  by_cases k3 : b3 = d3
  case neg => simp [h1, h2, h3, h4, h5, h6, h7, h8, h9, k1, k2, k3]
  by_cases k4 : b4 = d4
  case neg => simp [h1, h2, h3, h4, h5, h6, h7, h8, h9, k1, k2, k3, k4]
  by_cases k5 : b5 = d5
  case neg => simp [h1, h2, h3, h4, h5, h6, h7, h8, h9, k1, k2, k3, k4, k5]
  simp [h1, h2, h3, h4, h5, h6, h7, h8, h9, k1, k2, k3, k4, k5]
theorem low_bit {g : Int} (h : 0 ≤ g ∧ g < 18446744073709551616) : bits BinOp.and IntKind.u64 g (maskI 1) = g % 2 := by
  obtain ⟨n, rfl⟩ : ∃ n : Nat, g = (n : Int) := ⟨g.toNat, by omega⟩
  have e := bits_and_u64_nat n 1 (by omega) (by decide)
  have e2 : maskI 1 = ((1 : Nat) : Int) := rfl
  rw [e2, e, Nat.and_one_is_mod]
  omega
end Go.Proofs.Ytmkknjhalcocmaa

namespace Go.Proofs.Ytmkknjhalcocmaa
open Go Go.RowKit Go.Deep Go.Maps Go.ChangeMaps

/-- The rule of the laws. -/
abbrev lwC : TCfg := ⟨3, 20, 5, 8, 4⟩
theorem TabN.drewN {w0 w : World} {g sb n : Nat} {c : TCfg} {s : TSt} {K : Nat → Prop} (h : TabN w0 w g sb n c s K) (m : Nat) : TabN w0 (w.drewN m) g sb n c s K := h.call0 (below_drewN (Below.refl _ _) m)
theorem closeV_no {n : Nat} {s : TSt} {i : Int} (h : closeOk n s i = false) : closeV n s i = slt0 := by
  unfold closeV
  rw [h]
  rfl
theorem closeV_yes {n : Nat} {s : TSt} {i : Int} (h : closeOk n s i = true) : closeV n s i = s.E i.toNat := by
  unfold closeV
  rw [h]
  rfl
/-- What stands behind an entry that was let go, and was opened again. -/
structure Again (n k : Nat) (s : TSt) (x : Slt) (s1 s2 s3 : TSt) (a : Slt) : Prop where
  xk : x.sl = k
  e1 : s1 = closeS n s k
  e2 : s2 = lookS n k s1
  e3 : s3 = openS lwC n s2 x.t 7 2
  no1 : findOk n s1 x.t k 0 0 = false
  l1 : s2.L.length = s.L.length + 1
  g1 : genI n s2.E k = IntKind.u64.wrap (x.gen + 1)
  oe : openE s2 x.t 7 2 = 0
  ov : openV lwC s2 x.t 7 2 = a
  ak : a.sl = k
  ag : a.gen = IntKind.u64.wrap (x.gen + 1)
  ab : a.bk = 7
  at_ : a.t = x.t
  l3 : s3.L.length = s.L.length
  find : ∀ (lk : Int) (y : Tup) (low : Int), findOk n { s3 with lk := lk } y k low 1 = (tupB x.t y && (a.gen % 2 == low))
  par : 0 ≤ a.gen ∧ (a.gen % 2 == x.gen % 2) = false
theorem again_tup {t : Tup} (h : tupW t) : openOk t 7 2 = true := by
  unfold openOk
  rw [h.1]
  unfold beginS firstB
  rcases h.2 with e | e
  · rw [e]
    decide
  · rw [e]
    decide
theorem again_any {n k : Nat} {s : TSt} (h : TI n s) (hk : k < n) (hu : (s.E k).used = true) : ∃ s1 s2 s3 a, Again n k s (s.E k) s1 s2 s3 a := by
  have hc : closeOk n s k = true := closeOk_iff.2 ⟨k, rfl, hk, hu⟩
  have hlk : lookOk n (k : Int) = true := by unfold lookOk; simp; omega
  have h1 : closeS n s k = goS n (lookS n k s) k := by rw [closeS_yes hc, Int.toNat_natCast]
  have hE1 : (closeS n s k).E k = clrS (s.E k) := by
    rw [h1]
    show updE (lookS n k s).E k (clrS ((lookS n k s).E k)) k = _
    rw [updE_self, lookS_E]
  have hL1 : (closeS n s k).L = (k : Int) :: s.L := by
    rw [h1]
    show pushL n (lookS n k s).L k = _
    rw [lookS_L, pushL_used h hk hu]
  have hL2 : (lookS n k (closeS n s k)).L = (k : Int) :: s.L := by rw [lookS_L, hL1]
  have ho := again_tup (h.tup k hk hu)
  have hgr := h.gr k hk
  have hE2 : (lookS n k (closeS n s k)).E k = clrS (s.E k) := by rw [lookS_E, hE1]
  have hov := openV_yes (c := lwC) ho hL2
  have hos := openS_yes (n := n) (c := lwC) ho hL2
  rw [Int.toNat_natCast, hE2] at hov
  rw [Int.toNat_natCast] at hos
  refine ⟨_, _, _, _, ⟨h.sl k hk, rfl, rfl, rfl, ?_, ?_, ?_, ?_, rfl, ?_, ?_, ?_, ?_, ?_, fun lk y low => ?_, ?_⟩⟩
  · unfold findOk
    have : closeOk n (closeS n s k) k = false := by
      unfold closeOk
      rw [Int.toNat_natCast, hE1]
      exact Bool.and_false _
    rw [this, Bool.false_and]
  · rw [hL2]
    rfl
  · unfold genI
    rw [hlk, if_pos rfl, Int.toNat_natCast, hE2]
    rfl
  · unfold openE
    rw [ho, if_pos rfl, hL2]
    rfl
  · rw [hov]
    exact h.sl k hk
  · rw [hov]
    rfl
  · rw [hov]
    rfl
  · rw [hov]
    rfl
  · rw [hos]
  · rw [hos]
    unfold findOk closeOk
    rw [hlk, Int.toNat_natCast]
    dsimp only
    rw [updE_self, hov]
    have hg := wrap64_rng ((s.E k).gen + 1)
    have e := low_bit hg
    show (true && true && (true && (tupB (s.E k).t y && (bits BinOp.and IntKind.u64 (IntKind.u64.wrap ((s.E k).gen + 1)) (maskI 1) == low)))) = _
    rw [e]
    rfl
  · rw [hov]
    show 0 ≤ IntKind.u64.wrap ((s.E k).gen + 1) ∧ (IntKind.u64.wrap ((s.E k).gen + 1) % 2 == (s.E k).gen % 2) = false
    refine ⟨(wrap64_rng _).1, ?_⟩
    rw [beq_eq_false_iff_ne]
    simp [IntKind.wrap, IntKind.bits, IntKind.signed]
    omega
theorem lwC_right : lwC.right := right_idle rfl
set_option maxRecDepth 100000 in
set_option maxHeartbeats 16000000 in
theorem tableAgain_calls (b : Int) (hb8 : 0 ≤ b ∧ b ≤ 255) (l : List TStp) (sl : Int) (hsl8 : 0 ≤ sl ∧ sl ≤ 255) (x y : Tup) (B : Option Addr) (d : Nat) (w : World) (hr : Reads w w.heap.size 15 B l.length (l.flatMap TStp.cells)) (hl : l.length ≤ 9223372036854775807) :
    Calls Try.prog 4 #[.int .u8 b, .slice B l.length d, .int .u8 sl, x.val, y.val] w fun e w' => e = .returned (.bool true) ∧ Below w.heap.size w w' := by
  have hb0 : Below w.heap.size w ((w.alloc (.cells x.cells.toArray 39)).alloc (.cells y.cells.toArray 39)) := below_alloc (below_alloc (Below.refl _ _) _) _
  have PX := (Blk.new w 39 x.cells.toArray).alloc (.cells y.cells.toArray 39)
  have PY := Blk.new (w.alloc (.cells x.cells.toArray 39)) 39 y.cells.toArray
  rw [World.size_alloc] at PY
  by_cases h40 : 40 < l.length
  · have e40 : decide ((40 : Int) < (l.length : Int)) = true := by simp; omega
    clear hr PX PY
    go_enter Try.func4, Try.ntmps4
    go_upto_region 1 with fail
    change Code.wp _ _ _ _ ((w.alloc (.cells x.cells.toArray 39)).alloc (.cells y.cells.toArray 39))
    generalize (w.alloc (.cells x.cells.toArray 39)).alloc (.cells y.cells.toArray 39) = w1 at *
    go_wp2_with (go_at_call 6; (with_reducible refine (awake19 _).mono ?_); rintro e w2 ⟨rfl, hb1⟩)
    go_ret
    exact ⟨rfl, below_chain hb1 hb0⟩
  have e40 : decide ((40 : Int) < (l.length : Int)) = false := by simp; omega
  obtain ⟨m, hm, hm4⟩ : ∃ m : Nat, b % 5 = (m : Int) ∧ m ≤ 4 := ⟨(b % 5).toNat, by omega, by omega⟩
  have hwb : IntKind.i64.wrap b = b := by simp [IntKind.wrap, IntKind.bits, IntKind.signed]; omega
  have htb : b.tmod 5 = (m : Int) := (Int.tmod_eq_emod_of_nonneg (by omega)).trans hm
  replace hr := Lib.hid hr
  go_enter Try.func4, Try.ntmps4
  go_upto_region 1 with fail
  change Code.wp _ _ _ _ ((w.alloc (.cells x.cells.toArray 39)).alloc (.cells y.cells.toArray 39))
  obtain ⟨px, hpx⟩ : ∃ p, w.heap.size = p := ⟨_, rfl⟩
  have hpx2 : w.heap.size ≤ px := by omega
  rw [hpx] at PX PY
  generalize (w.alloc (.cells x.cells.toArray 39)).alloc (.cells y.cells.toArray 39) = w1 at *
  try rw [hpx]
  replace hpx := Lib.hid hpx
  have hlx := PX.lt
  have hly := PY.lt
  have NW : Calls Try.prog 7 #[.int .i64 m, .agg #[.int .i64 3, .int .i64 20, .int .i64 5, .int .i64 8], .int .i64 4] w1 _ := tabn_new (w0 := w) (w := w1) (K := fun b => b = px ∨ b = px + 1) m (by omega) 3 20 5 8 rfl 4 (by omega) hb0 (fun b hb => by omega) lwC_right
  replace NW := Lib.hid NW
  go_upto_region 4 with (go_at_call 7; (with_reducible refine NW.out.mono ?_); rintro e w2 ⟨g, sb, rfl, hT0, hb1⟩)
  have PX1 := PX.call hb1
  have PY1 := PY.call hb1
  obtain ⟨n, hn⟩ : ∃ n : Nat, 2 ^ m = n := ⟨_, rfl⟩
  rw [hn] at hT0
  replace hT0 := Lib.hid hT0
  clear NW PX PY hlx hly hb0 hb1
  go_wp2_with fail
  go_loopw [13] (fun iv wr => ∃ (k : Nat) (s : TSt), k ≤ l.length ∧ iv = .int .i64 (k : Nat) ∧ TabN w wr g sb n lwC s (fun b => b = px ∨ b = px + 1) ∧ Blk wr px 39 x.cells.toArray ∧ Blk wr (px + 1) 39 y.cells.toArray) (fun iv _ => l.length - (intOf iv).toNat)
  case atStart => exact ⟨0, _, by omega, rfl, hT0.out, PX1, PY1⟩
  case round =>
    obtain ⟨k, s, hk, rfl, hT, PX, PY⟩ := hrel
    clear hT0 PX1 PY1
    by_cases hlt : k < l.length
    · have hlti : (k : Int) < (l.length : Int) := by omega
      obtain ⟨ad, st, rfl, hbl, -, c0, c1, c2, c3, c4, c5, c6, c7, c8, c9, c10, c11, c12, c13, c14⟩ := tstp_at15 (hr.out.below hT.below) hlt
      replace hT := Lib.hid hT
      go_upto_region 10 with fail
      change Code.wp _ _ _ _ (wr.alloc (.cells st.cells.toArray 41))
      have S := Blk.new wr 41 st.cells.toArray
      have hT1 := hT.out.alloc (.cells st.cells.toArray 41)
      have PX1 := PX.alloc (.cells st.cells.toArray 41)
      have PY1 := PY.alloc (.cells st.cells.toArray 41)
      obtain ⟨r, hr2⟩ : ∃ r, wr.heap.size = r := ⟨_, rfl⟩
      rw [hr2] at S hT1
      try rw [hr2]
      generalize wr.alloc (.cells st.cells.toArray 41) = w3 at *
      clear c0 c1 c2 c3 c4 c5 c6 c7 c8 c9 c10 c11 c12 c13 c14 PX PY
      have s0 : w3.cell? ⟨r, 0, none⟩ = some (.int .i64 st.kd) := S.cell 0
      have s1 : w3.cell? ⟨r, 1, none⟩ = some (.int .i64 st.tu.p) := S.cell 1
      have s2 : w3.cell? ⟨r, 2, none⟩ = some (.bool st.tu.v) := S.cell 2
      have s3 : w3.cell? ⟨r, 3, none⟩ = some (.int .u64 st.tu.hi) := S.cell 3
      have s4 : w3.cell? ⟨r, 4, none⟩ = some (.int .u64 st.tu.lo) := S.cell 4
      have s5 : w3.cell? ⟨r, 5, none⟩ = some (.bool st.tu.v') := S.cell 5
      have s6 : w3.cell? ⟨r, 6, none⟩ = some (.int .u64 st.tu.hi') := S.cell 6
      have s7 : w3.cell? ⟨r, 7, none⟩ = some (.int .u64 st.tu.lo') := S.cell 7
      have s8 : w3.cell? ⟨r, 8, none⟩ = some (.int .i64 st.tu.sp) := S.cell 8
      have s9 : w3.cell? ⟨r, 9, none⟩ = some (.int .i64 st.tu.dp) := S.cell 9
      have s10 : w3.cell? ⟨r, 10, none⟩ = some (.int .i64 st.sl) := S.cell 10
      have s11 : w3.cell? ⟨r, 11, none⟩ = some (.int .i64 st.n) := S.cell 11
      have s12 : w3.cell? ⟨r, 12, none⟩ = some (.int .i64 st.bk) := S.cell 12
      have hK : ∀ b, ((b = px ∨ b = px + 1) ∨ b = r) → b < w3.heap.size := fun b hb => by
        have := PX1.lt
        have := PY1.lt
        have := S.lt
        omega
      have K0 := Lib.hid (tabn_open hT1 hK st.tu st.bk st.n)
      have K2 := Lib.hid (tabn_touch hT1 hK st.sl st.n)
      have K3 := Lib.hid (tabn_close hT1 hK st.sl)
      have K4 := Lib.hid (tabn_go hT1 hK st.n)
      have K5 := Lib.hid (tabn_drop hT1 hK st.bk)
      obtain ⟨kd, hkd⟩ : ∃ kd, st.kd = kd := ⟨_, rfl⟩
      rw [hkd] at s0
      replace hkd := Lib.hid hkd
      replace hT1 := Lib.hid hT1
      clear S hK
      have hkc : kd = 0 ∨ kd = 2 ∨ kd = 3 ∨ kd = 4 ∨ kd = 5 ∨ ((kd == 0) = false ∧ (kd == 2) = false ∧ (kd == 3) = false ∧ (kd == 4) = false ∧ (kd == 5) = false) := by
        simp only [beq_eq_false_iff_ne]
        omega
      rcases hkc with rfl | rfl | rfl | rfl | rfl | ⟨e0, e2, e3, e4, e5⟩
      case' inr.inr.inr.inr.inr =>
        go_wp2_with fail
        go_roundw
        case rel => exact ⟨k + 1, s, by omega, by go_num, hT1.out.mono (fun b hb => .inl hb), PX1, PY1⟩
        case measure => simp [intOf]; omega
      all_goals
        go_wp2_with (first
          | (go_at_call 11; (with_reducible refine K0.out.mono ?_); rintro e v2 ⟨rfl, hT2, hc2⟩)
          | (go_at_call 13; (with_reducible refine K2.out.mono ?_); rintro e v2 ⟨rfl, hT2, hc2⟩)
          | (go_at_call 14; (with_reducible refine K3.out.mono ?_); rintro e v2 ⟨rfl, hT2, hc2⟩)
          | (go_at_call 15; (with_reducible refine K4.out.mono ?_); rintro e v2 ⟨B4, q4, S4, rfl, -, -, -, hT2, hc2⟩)
          | (go_at_call 16; (with_reducible refine K5.out.mono ?_); rintro e v2 ⟨B4, q4, rfl, -, hT2, hc2⟩))
        go_roundw
        case rel => exact ⟨k + 1, _, by omega, by go_num, hT2.mono (fun b hb => .inl hb), PX1.chg hc2 (fun e => e.2 (.inl (.inl rfl))), PY1.chg hc2 (fun e => e.2 (.inl (.inr rfl)))⟩
        case measure => simp [intOf]; omega
    · obtain rfl : k = l.length := by omega
      have hlti : ¬ (l.length : Int) < (l.length : Int) := by omega
      clear hr
      obtain ⟨kk, hkk, hkk2⟩ : ∃ kk : Nat, sl % 16 = (kk : Int) ∧ kk < 16 := ⟨(sl % 16).toNat, by omega, by omega⟩
      have hws : IntKind.i64.wrap sl = sl := by simp [IntKind.wrap, IntKind.bits, IntKind.signed]; omega
      have hts : sl.tmod 16 = (kk : Int) := (Int.tmod_eq_emod_of_nonneg (by omega)).trans hkk
      have hti := hT.ti
      have hn4 := hT.n4096
      have hLl : s.L.length ≤ 4096 := by have := nodup_len n s.L hti.nd (fun x hx => hti.rng x hx); omega
      have hlx := PX.lt
      have hly := PY.lt
      have hK : ∀ b, (b = px ∨ b = px + 1) → b < wr.heap.size := fun b hb => by omega
      have FR := Lib.hid (tabn_free hT)
      cases hc : closeOk n s kk
      · have CL := tabn_close hT hK kk
        rw [hc, closeV_no hc, closeS_no hc] at CL
        replace CL := Lib.hid CL
        replace hT := Lib.hid hT
        go_upto_region 24 with (first
          | (go_at_call 17; (with_reducible refine FR.out.mono ?_); rintro e v1 ⟨rfl, rfl⟩)
          | (go_at_call 14; (with_reducible refine CL.out.mono ?_); rintro e v2 ⟨rfl, hT2, hc2⟩))
        change Code.wp _ _ _ _ (v2.alloc (.cells slt0.entA 43))
        have R := Blk.new v2 43 slt0.entA
        have hT3 := hT2.alloc (.cells slt0.entA 43)
        obtain ⟨r, hr2⟩ : ∃ r, v2.heap.size = r := ⟨_, rfl⟩
        rw [hr2] at R
        try rw [hr2]
        generalize v2.alloc (.cells slt0.entA 43) = w3 at *
        have s0 : w3.cell? ⟨r, 0, none⟩ = some (.int .i64 0) := R.cell 0
        have s1 : w3.cell? ⟨r, 1, none⟩ = some (.bool false) := R.cell 1
        have s2 : w3.cell? ⟨r, 2, none⟩ = some (.int .u64 0) := R.cell 2
        have s3 : w3.cell? ⟨r, 3, none⟩ = some (.int .u64 0) := R.cell 3
        have s4 : w3.cell? ⟨r, 4, none⟩ = some (.bool false) := R.cell 4
        have s5 : w3.cell? ⟨r, 5, none⟩ = some (.int .u64 0) := R.cell 5
        have s6 : w3.cell? ⟨r, 6, none⟩ = some (.int .u64 0) := R.cell 6
        have s7 : w3.cell? ⟨r, 7, none⟩ = some (.int .i64 0) := R.cell 7
        have s8 : w3.cell? ⟨r, 8, none⟩ = some (.int .i64 0) := R.cell 8
        have s9 : w3.cell? ⟨r, 9, none⟩ = some (.int .i64 0) := R.cell 9
        have s10 : w3.cell? ⟨r, 10, none⟩ = some (.int .i64 0) := R.cell 10
        have s11 : w3.cell? ⟨r, 11, none⟩ = some (.int .i64 0) := R.cell 11
        have s12 : w3.cell? ⟨r, 12, none⟩ = some (.int .u64 0) := R.cell 12
        have s13 : w3.cell? ⟨r, 13, none⟩ = some (.int .i64 0) := R.cell 13
        have hEQ : ∀ W, (binOp .eql 43 (.agg #[.int .i64 0, .bool false, .int .u64 0, .int .u64 0, .bool false, .int .u64 0, .int .u64 0, .int .i64 0, .int .i64 0, .int .i64 0, .int .i64 0, .int .i64 0, .int .u64 0, .int .i64 0]) (.agg #[.int .i64 0, .bool false, .int .u64 0, .int .u64 0, .bool false, .int .u64 0, .int .u64 0, .int .i64 0, .int .i64 0, .int .i64 0, .int .i64 0, .int .i64 0, .int .u64 0, .int .i64 0])).run Try.prog W = .ok (.bool true) W := fun W => ent_eql slt0 slt0 W
        have FR2 := tabn_free hT3
        rw [lookS_L] at FR2
        replace FR2 := Lib.hid FR2
        have hbF := hT3.below
        replace hT3 := Lib.hid hT3
        clear R FR CL hT hT2 hc2
        go_wp2_with (first
          | (go_at_call 17; (with_reducible refine FR2.out.mono ?_); rintro e v4 ⟨rfl, rfl⟩)
          | (go_at_call 6; (with_reducible refine (awake19 _).mono ?_); rintro e v5 ⟨rfl, hb5⟩))
        go_ret
        exact ⟨rfl, below_chain hb5 hbF⟩
      · obtain ⟨k2, hkc, hk, hu⟩ := closeOk_iff.1 hc
        obtain rfl : k2 = kk := by omega
        obtain ⟨s1, s2, s3, a, AG⟩ := again_any hti hk hu
        have CL := tabn_close hT hK k2
        rw [hc, closeV_yes hc, Int.toNat_natCast, ← AG.e1] at CL
        obtain ⟨en, hen⟩ : ∃ en, s.E k2 = en := ⟨_, rfl⟩
        rw [hen] at AG CL
        obtain ⟨L0, hL0⟩ : ∃ L0 : Int, (s.L.length : Int) = L0 := ⟨_, rfl⟩
        have hL0r : 0 ≤ L0 ∧ L0 ≤ 4096 := by omega
        rw [hL0] at FR
        replace FR := Lib.hid FR.out
        replace CL := Lib.hid CL
        replace AG := Lib.hid AG
        replace hT := Lib.hid hT
        replace hti := Lib.hid hti
        replace hen := Lib.hid hen
        replace hu := Lib.hid hu
        go_upto_region 24 with (first
          | (go_at_call 17; (with_reducible refine FR.out.mono ?_); rintro e v1 ⟨rfl, rfl⟩)
          | (go_at_call 14; (with_reducible refine CL.out.mono ?_); rintro e v2 ⟨rfl, hT2, hc2⟩))
        change Code.wp _ _ _ _ (v2.alloc (.cells en.entA 43))
        have R := Blk.new v2 43 en.entA
        have hT3 := hT2.alloc (.cells en.entA 43)
        have PX3 := (PX.chg hc2 (fun e => e.2 (.inl rfl))).alloc (.cells en.entA 43)
        have PY3 := (PY.chg hc2 (fun e => e.2 (.inr rfl))).alloc (.cells en.entA 43)
        obtain ⟨r, hr2⟩ : ∃ r, v2.heap.size = r := ⟨_, rfl⟩
        rw [hr2] at R hT3
        try rw [hr2]
        generalize v2.alloc (.cells en.entA 43) = w3 at *
        clear FR CL hT hT2 hc2 PX PY hlx hly hK
        have q0 : w3.cell? ⟨r, 0, none⟩ = some (.int .i64 en.t.p) := R.cell 0
        have q1 : w3.cell? ⟨r, 1, none⟩ = some (.bool en.t.v) := R.cell 1
        have q2 : w3.cell? ⟨r, 2, none⟩ = some (.int .u64 en.t.hi) := R.cell 2
        have q3 : w3.cell? ⟨r, 3, none⟩ = some (.int .u64 en.t.lo) := R.cell 3
        have q4 : w3.cell? ⟨r, 4, none⟩ = some (.bool en.t.v') := R.cell 4
        have q5 : w3.cell? ⟨r, 5, none⟩ = some (.int .u64 en.t.hi') := R.cell 5
        have q6 : w3.cell? ⟨r, 6, none⟩ = some (.int .u64 en.t.lo') := R.cell 6
        have q7 : w3.cell? ⟨r, 7, none⟩ = some (.int .i64 en.t.sp) := R.cell 7
        have q8 : w3.cell? ⟨r, 8, none⟩ = some (.int .i64 en.t.dp) := R.cell 8
        have hK : ∀ b, ((b = px ∨ b = px + 1) ∨ b = r) → b < w3.heap.size := fun b hb => by
          have := PX3.lt
          have := PY3.lt
          have := R.lt
          omega
        have FN := tabn_find hT3 hK en.t k2 0 0
        rw [AG.out.no1, ← AG.out.e2] at FN
        obtain ⟨fv, hfv⟩ : ∃ fv, findV n s1 en.t k2 0 0 = fv := ⟨_, rfl⟩
        rw [hfv] at FN
        replace hfv := Lib.hid hfv
        replace FN := Lib.hid FN
        replace hT3 := Lib.hid hT3
        go_upto_region 27 with (go_at_call 12; (with_reducible refine FN.out.mono ?_); rintro e v4 ⟨rfl, hT4, hc4⟩)
        change Code.wp _ _ _ _ (v4.alloc (.cells fv.entA 43))
        have R5 := (R.chg hc4 (fun e => e.2 (.inr rfl))).alloc (.cells fv.entA 43)
        have hT5 := (hT4.alloc (.cells fv.entA 43)).mono (K' := fun b => (b = px ∨ b = px + 1) ∨ b = r) (fun b hb => .inl hb)
        have PX5 := (PX3.chg hc4 (fun e => e.2 (.inl (.inl rfl)))).alloc (.cells fv.entA 43)
        have PY5 := (PY3.chg hc4 (fun e => e.2 (.inl (.inr rfl)))).alloc (.cells fv.entA 43)
        try generalize v4.heap.size = r4 at *
        generalize v4.alloc (.cells fv.entA 43) = w5 at *
        clear FN hT3 hT4 hc4 PX3 PY3 R hK q0 q1 q2 q3 q4 q5 q6 q7 q8 hfv
        have c11 : w5.cell? ⟨r, 11, none⟩ = some (.int .i64 (k2 : Int)) := by rw [← AG.out.xk]; exact R5.cell 11
        have c12 : w5.cell? ⟨r, 12, none⟩ = some (.int .u64 en.gen) := R5.cell 12
        obtain ⟨gn, hgn⟩ : ∃ gn, IntKind.u64.wrap (en.gen + 1) = gn := ⟨_, rfl⟩
        have gnn : (gn != gn) = false := by simp
        have hL1 : IntKind.i64.wrap (L0 + 1) = L0 + 1 := by simp [IntKind.wrap, IntKind.bits, IntKind.signed]; omega
        have hL2 : (L0 + 1 != L0 + 1) = false := by simp
        have hLL : (L0 != L0) = false := by simp
        have hkk3 : ((k2 : Int) != (k2 : Int)) = false := by simp
        have FRq := Lib.hid fun m : Nat => show Calls Try.prog 17 #[.pointer (some ⟨g, 0, none⟩)] (w5.drewN m) fun e w' => e = .returned (.int .i64 (L0 + 1)) ∧ w' = w5.drewN m from (tabn_free (hT5.drewN m)).mono fun _ _ h => And.intro (by rw [h.1, AG.out.l1, ← hL0, Int.natCast_add]; rfl) h.2.symm
        have GNq := Lib.hid fun m : Nat => show Calls Try.prog 10 #[.pointer (some ⟨g, 0, none⟩), .int .i64 (k2 : Int)] (w5.drewN m) fun e w' => e = .returned (.int .u64 gn) ∧ w' = w5.drewN m from (tabn_gen (hT5.drewN m) k2).mono fun _ _ h => And.intro (by rw [h.1, AG.out.g1, hgn]) h.2.symm
        replace hT5 := Lib.hid hT5
        go_quiet (first
          | (go_at_call 17; with_reducible exact Calls.quiet_of_same (FRq.out _))
          | (go_at_call 10; with_reducible exact Calls.quiet_of_same (GNq.out _)))
        have hT6 := hT5.out.drewN nq
        have R6 : Blk (w5.drewN nq) r 43 en.entA := R5
        have PX6 : Blk (w5.drewN nq) px 39 x.cells.toArray := PX5
        have PY6 : Blk (w5.drewN nq) (px + 1) 39 y.cells.toArray := PY5
        generalize w5.drewN nq = w6 at *
        clear FRq GNq hT5 PX5 PY5 R5 c11 c12
        have q0 : w6.cell? ⟨r, 0, none⟩ = some (.int .i64 en.t.p) := R6.cell 0
        have q1 : w6.cell? ⟨r, 1, none⟩ = some (.bool en.t.v) := R6.cell 1
        have q2 : w6.cell? ⟨r, 2, none⟩ = some (.int .u64 en.t.hi) := R6.cell 2
        have q3 : w6.cell? ⟨r, 3, none⟩ = some (.int .u64 en.t.lo) := R6.cell 3
        have q4 : w6.cell? ⟨r, 4, none⟩ = some (.bool en.t.v') := R6.cell 4
        have q5 : w6.cell? ⟨r, 5, none⟩ = some (.int .u64 en.t.hi') := R6.cell 5
        have q6 : w6.cell? ⟨r, 6, none⟩ = some (.int .u64 en.t.lo') := R6.cell 6
        have q7 : w6.cell? ⟨r, 7, none⟩ = some (.int .i64 en.t.sp) := R6.cell 7
        have q8 : w6.cell? ⟨r, 8, none⟩ = some (.int .i64 en.t.dp) := R6.cell 8
        have hK : ∀ b, ((b = px ∨ b = px + 1) ∨ b = r) → b < w6.heap.size := fun b hb => by
          have := PX6.lt
          have := PY6.lt
          have := R6.lt
          omega
        have OP := tabn_open hT6 hK en.t 7 2
        rw [AG.out.oe, AG.out.ov, ← AG.out.e3] at OP
        replace OP := Lib.hid OP
        replace hT6 := Lib.hid hT6

        go_upto_region 30 with (go_at_call 11; (with_reducible refine OP.out.mono ?_); rintro e v7 ⟨rfl, hT7, hc7⟩)
        change Code.wp _ _ _ _ (v7.alloc (.cells a.entA 43))
        have Q := Blk.new v7 43 a.entA
        have hT8 := hT7.alloc (.cells a.entA 43)
        have R8 := (R6.chg hc7 (fun e => e.2 (.inr rfl))).alloc (.cells a.entA 43)
        have PX8 := (PX6.chg hc7 (fun e => e.2 (.inl (.inl rfl)))).alloc (.cells a.entA 43)
        have PY8 := (PY6.chg hc7 (fun e => e.2 (.inl (.inr rfl)))).alloc (.cells a.entA 43)
        obtain ⟨o, ho⟩ : ∃ o, v7.heap.size = o := ⟨_, rfl⟩
        rw [ho] at Q hT8
        try rw [ho]
        generalize v7.alloc (.cells a.entA 43) = w8 at *
        clear OP hT6 hT7 hc7 PX6 PY6 R6 hK q0 q1 q2 q3 q4 q5 q6 q7 q8 ho
        have q0 : w8.cell? ⟨r, 0, none⟩ = some (.int .i64 en.t.p) := R8.cell 0
        have q1 : w8.cell? ⟨r, 1, none⟩ = some (.bool en.t.v) := R8.cell 1
        have q2 : w8.cell? ⟨r, 2, none⟩ = some (.int .u64 en.t.hi) := R8.cell 2
        have q3 : w8.cell? ⟨r, 3, none⟩ = some (.int .u64 en.t.lo) := R8.cell 3
        have q4 : w8.cell? ⟨r, 4, none⟩ = some (.bool en.t.v') := R8.cell 4
        have q5 : w8.cell? ⟨r, 5, none⟩ = some (.int .u64 en.t.hi') := R8.cell 5
        have q6 : w8.cell? ⟨r, 6, none⟩ = some (.int .u64 en.t.lo') := R8.cell 6
        have q7 : w8.cell? ⟨r, 7, none⟩ = some (.int .i64 en.t.sp) := R8.cell 7
        have q8 : w8.cell? ⟨r, 8, none⟩ = some (.int .i64 en.t.dp) := R8.cell 8
        have o9 : w8.cell? ⟨o, 9, none⟩ = some (.int .i64 7) := by rw [← AG.out.ab]; exact Q.cell 9
        have o11 : w8.cell? ⟨o, 11, none⟩ = some (.int .i64 (k2 : Int)) := by rw [← AG.out.ak]; exact Q.cell 11
        have o12 : w8.cell? ⟨o, 12, none⟩ = some (.int .u64 gn) := by rw [← hgn, ← AG.out.ag]; exact Q.cell 12
        have c12 : w8.cell? ⟨r, 12, none⟩ = some (.int .u64 en.gen) := R8.cell 12
        have p0 : w8.cell? ⟨o, 0, none⟩ = some (.int .i64 en.t.p) := by rw [← AG.out.at_]; exact Q.cell 0
        have p1 : w8.cell? ⟨o, 1, none⟩ = some (.bool en.t.v) := by rw [← AG.out.at_]; exact Q.cell 1
        have p2 : w8.cell? ⟨o, 2, none⟩ = some (.int .u64 en.t.hi) := by rw [← AG.out.at_]; exact Q.cell 2
        have p3 : w8.cell? ⟨o, 3, none⟩ = some (.int .u64 en.t.lo) := by rw [← AG.out.at_]; exact Q.cell 3
        have p4 : w8.cell? ⟨o, 4, none⟩ = some (.bool en.t.v') := by rw [← AG.out.at_]; exact Q.cell 4
        have p5 : w8.cell? ⟨o, 5, none⟩ = some (.int .u64 en.t.hi') := by rw [← AG.out.at_]; exact Q.cell 5
        have p6 : w8.cell? ⟨o, 6, none⟩ = some (.int .u64 en.t.lo') := by rw [← AG.out.at_]; exact Q.cell 6
        have p7 : w8.cell? ⟨o, 7, none⟩ = some (.int .i64 en.t.sp) := by rw [← AG.out.at_]; exact Q.cell 7
        have p8 : w8.cell? ⟨o, 8, none⟩ = some (.int .i64 en.t.dp) := by rw [← AG.out.at_]; exact Q.cell 8
        have hNE : ∀ W, (binOp .neq 39 en.t.val en.t.val).run Try.prog W = .ok (.bool false) W := fun W => by rw [tup_neq, tupB_self]; rfl
        have FR8 := tabn_free hT8
        rw [AG.out.l3, hL0] at FR8
        replace FR8 := Lib.hid FR8
        have hgr : 0 ≤ en.gen ∧ en.gen < 18446744073709551616 := by have := hti.out.gr k2 hk; rw [hen.out] at this; exact this
        have htm : en.gen.tmod 2 = en.gen % 2 := Int.tmod_eq_emod_of_nonneg hgr.1
        have htg : gn.tmod 2 = gn % 2 := Int.tmod_eq_emod_of_nonneg (by rw [← hgn, ← AG.out.ag]; exact AG.out.par.1)
        have hga : a.gen = gn := by rw [AG.out.ag, hgn]
        have hK : ∀ b, (((b = px ∨ b = px + 1) ∨ b = r) ∨ b = o) → b < w8.heap.size := fun b hb => by
          have := PX8.lt
          have := PY8.lt
          have := R8.lt
          have := Q.lt
          omega
        have FD := AG.out.find
        rw [hga] at FD
        have hpar : (gn % 2 == en.gen % 2) = false := by rw [← hga]; exact AG.out.par.2
        have FN := tabn_find hT8 hK en.t k2 (en.gen % 2) 1
        have hf0 := FD s3.lk en.t (en.gen % 2)
        rw [hpar, Bool.and_false] at hf0
        change findOk n s3 _ _ _ _ = _ at hf0
        rw [hf0] at FN
        obtain ⟨fv2, hfv⟩ : ∃ fv, findV n s3 en.t k2 (en.gen % 2) 1 = fv := ⟨_, rfl⟩
        rw [hfv] at FN
        obtain ⟨s4, hs4⟩ : ∃ s4, lookS n k2 s3 = s4 := ⟨_, rfl⟩
        rw [hs4] at FN
        have hs4e : s4 = { s3 with lk := s4.lk } := by rw [← hs4]; exact lookS_eq _ _ _
        replace FN := Lib.hid FN
        replace FD := Lib.hid FD
        replace hga := Lib.hid hga
        replace hgr := Lib.hid hgr
        replace hs4e := Lib.hid hs4e
        replace hT8 := Lib.hid hT8
        clear hfv hf0 hs4 hpar
        go_upto_region 33 with (first
          | (go_at_call 17; (with_reducible refine FR8.out.mono ?_); rintro e v8 ⟨rfl, rfl⟩)
          | (go_at_call 12; (with_reducible refine FN.out.mono ?_); rintro e v9 ⟨rfl, hT9, hc9⟩))
        replace hgn := Lib.hid hgn
        change Code.wp _ _ _ _ (v9.alloc (.cells fv2.entA 43))
        have Q10 := (Q.chg hc9 (fun e => e.2 (.inr rfl))).alloc (.cells fv2.entA 43)
        have R10 := (R8.chg hc9 (fun e => e.2 (.inl (.inr rfl)))).alloc (.cells fv2.entA 43)
        have PX10 := (PX8.chg hc9 (fun e => e.2 (.inl (.inl (.inl rfl))))).alloc (.cells fv2.entA 43)
        have PY10 := (PY8.chg hc9 (fun e => e.2 (.inl (.inl (.inr rfl))))).alloc (.cells fv2.entA 43)
        have hT10 := (hT9.alloc (.cells fv2.entA 43)).mono (K' := fun b => ((b = px ∨ b = px + 1) ∨ b = r) ∨ b = o) (fun b hb => .inl hb)
        try generalize v9.heap.size = r9 at *
        generalize v9.alloc (.cells fv2.entA 43) = w10 at *
        clear FN hT8 hT9 hc9 FR8 hNE hK PX8 PY8 R8 Q o9 o11 o12 c12 p0 p1 p2 p3 p4 p5 p6 p7 p8 q0 q1 q2 q3 q4 q5 q6 q7 q8
        have hs4e := hs4e.out
        have p0 : w10.cell? ⟨(px + 1), 0, none⟩ = some (.int .i64 y.p) := PY10.cell 0
        have p1 : w10.cell? ⟨(px + 1), 1, none⟩ = some (.bool y.v) := PY10.cell 1
        have p2 : w10.cell? ⟨(px + 1), 2, none⟩ = some (.int .u64 y.hi) := PY10.cell 2
        have p3 : w10.cell? ⟨(px + 1), 3, none⟩ = some (.int .u64 y.lo) := PY10.cell 3
        have p4 : w10.cell? ⟨(px + 1), 4, none⟩ = some (.bool y.v') := PY10.cell 4
        have p5 : w10.cell? ⟨(px + 1), 5, none⟩ = some (.int .u64 y.hi') := PY10.cell 5
        have p6 : w10.cell? ⟨(px + 1), 6, none⟩ = some (.int .u64 y.lo') := PY10.cell 6
        have p7 : w10.cell? ⟨(px + 1), 7, none⟩ = some (.int .i64 y.sp) := PY10.cell 7
        have p8 : w10.cell? ⟨(px + 1), 8, none⟩ = some (.int .i64 y.dp) := PY10.cell 8
        have o12 : w10.cell? ⟨o, 12, none⟩ = some (.int .u64 gn) := by rw [← hga.out]; exact Q10.cell 12
        have hK : ∀ b, (((b = px ∨ b = px + 1) ∨ b = r) ∨ b = o) → b < w10.heap.size := fun b hb => by
          have := PX10.lt
          have := PY10.lt
          have := R10.lt
          have := Q10.lt
          omega
        have FN := tabn_find hT10 hK y k2 (gn % 2) 1
        have hf0 := FD.out s4.lk y (gn % 2)
        rw [beq_self_eq_true, Bool.and_true, ← hs4e] at hf0
        rw [hf0] at FN
        obtain ⟨fy, hfv⟩ : ∃ fv, findV n s4 y k2 (gn % 2) 1 = fv := ⟨_, rfl⟩
        rw [hfv] at FN
        obtain ⟨s5, hsn⟩ : ∃ sz, lookS n k2 s4 = sz := ⟨_, rfl⟩
        rw [hsn] at FN
        have hs5e : s5 = { s3 with lk := s5.lk } := by
          have e := lookS_eq n k2 s4
          rw [hsn] at e
          rw [e, hs4e]
        obtain ⟨bfy, hbfy⟩ : ∃ b, tupB en.t y = b := ⟨_, rfl⟩
        rw [hbfy] at FN
        replace FN := Lib.hid FN
        replace hbfy := Lib.hid hbfy
        replace hT10 := Lib.hid hT10
        clear hfv hf0 hsn
        go_upto_region 34 with (go_at_call 12; (with_reducible refine FN.out.mono ?_); rintro e v11 ⟨rfl, hTx, hcx⟩)
        change Code.wp _ _ _ _ (v11.alloc (.cells fy.entA 43))
        have Q12 := (Q10.chg hcx (fun e => e.2 (.inr rfl))).alloc (.cells fy.entA 43)
        have R12 := (R10.chg hcx (fun e => e.2 (.inl (.inr rfl)))).alloc (.cells fy.entA 43)
        have PX12 := (PX10.chg hcx (fun e => e.2 (.inl (.inl (.inl rfl))))).alloc (.cells fy.entA 43)
        have PY12 := (PY10.chg hcx (fun e => e.2 (.inl (.inl (.inr rfl))))).alloc (.cells fy.entA 43)
        have hT12 := (hTx.alloc (.cells fy.entA 43)).mono (K' := fun b => ((b = px ∨ b = px + 1) ∨ b = r) ∨ b = o) (fun b hb => .inl hb)
        try generalize v11.heap.size = rv11 at *
        generalize v11.alloc (.cells fy.entA 43) = w12 at *
        clear FN hT10 hTx hcx hK PX10 PY10 R10 Q10 o12 p0 p1 p2 p3 p4 p5 p6 p7 p8
        have p0 : w12.cell? ⟨px, 0, none⟩ = some (.int .i64 x.p) := PX12.cell 0
        have p1 : w12.cell? ⟨px, 1, none⟩ = some (.bool x.v) := PX12.cell 1
        have p2 : w12.cell? ⟨px, 2, none⟩ = some (.int .u64 x.hi) := PX12.cell 2
        have p3 : w12.cell? ⟨px, 3, none⟩ = some (.int .u64 x.lo) := PX12.cell 3
        have p4 : w12.cell? ⟨px, 4, none⟩ = some (.bool x.v') := PX12.cell 4
        have p5 : w12.cell? ⟨px, 5, none⟩ = some (.int .u64 x.hi') := PX12.cell 5
        have p6 : w12.cell? ⟨px, 6, none⟩ = some (.int .u64 x.lo') := PX12.cell 6
        have p7 : w12.cell? ⟨px, 7, none⟩ = some (.int .i64 x.sp) := PX12.cell 7
        have p8 : w12.cell? ⟨px, 8, none⟩ = some (.int .i64 x.dp) := PX12.cell 8
        have o12 : w12.cell? ⟨o, 12, none⟩ = some (.int .u64 gn) := by rw [← hga.out]; exact Q12.cell 12
        have hK : ∀ b, (((b = px ∨ b = px + 1) ∨ b = r) ∨ b = o) → b < w12.heap.size := fun b hb => by
          have := PX12.lt
          have := PY12.lt
          have := R12.lt
          have := Q12.lt
          omega
        have FN := tabn_find hT12 hK x k2 (gn % 2) 1
        have hf0 := FD.out s5.lk x (gn % 2)
        rw [beq_self_eq_true, Bool.and_true, ← hs5e] at hf0
        rw [hf0] at FN
        obtain ⟨fx, hfv⟩ : ∃ fv, findV n s5 x k2 (gn % 2) 1 = fv := ⟨_, rfl⟩
        rw [hfv] at FN
        obtain ⟨s6, hsn⟩ : ∃ sz, lookS n k2 s5 = sz := ⟨_, rfl⟩
        rw [hsn] at FN
        have hs6e : s6 = { s3 with lk := s6.lk } := by
          have e := lookS_eq n k2 s5
          rw [hsn] at e
          rw [e, hs5e]
        obtain ⟨bfx, hbfx⟩ : ∃ b, tupB en.t x = b := ⟨_, rfl⟩
        rw [hbfx] at FN
        replace FN := Lib.hid FN
        replace hbfx := Lib.hid hbfx
        replace hT12 := Lib.hid hT12
        clear hfv hf0 hsn
        go_upto_region 35 with (go_at_call 12; (with_reducible refine FN.out.mono ?_); rintro e v13 ⟨rfl, hTx, hcx⟩)
        change Code.wp _ _ _ _ (v13.alloc (.cells fx.entA 43))
        have Q14 := (Q12.chg hcx (fun e => e.2 (.inr rfl))).alloc (.cells fx.entA 43)
        have R14 := (R12.chg hcx (fun e => e.2 (.inl (.inr rfl)))).alloc (.cells fx.entA 43)
        have PX14 := (PX12.chg hcx (fun e => e.2 (.inl (.inl (.inl rfl))))).alloc (.cells fx.entA 43)
        have PY14 := (PY12.chg hcx (fun e => e.2 (.inl (.inl (.inr rfl))))).alloc (.cells fx.entA 43)
        have hT14 := (hTx.alloc (.cells fx.entA 43)).mono (K' := fun b => ((b = px ∨ b = px + 1) ∨ b = r) ∨ b = o) (fun b hb => .inl hb)
        try generalize v13.heap.size = rv13 at *
        generalize v13.alloc (.cells fx.entA 43) = w14 at *
        clear FN hT12 hTx hcx hK PX12 PY12 R12 Q12 o12 p0 p1 p2 p3 p4 p5 p6 p7 p8
        have q0 : w14.cell? ⟨r, 0, none⟩ = some (.int .i64 en.t.p) := R14.cell 0
        have q1 : w14.cell? ⟨r, 1, none⟩ = some (.bool en.t.v) := R14.cell 1
        have q2 : w14.cell? ⟨r, 2, none⟩ = some (.int .u64 en.t.hi) := R14.cell 2
        have q3 : w14.cell? ⟨r, 3, none⟩ = some (.int .u64 en.t.lo) := R14.cell 3
        have q4 : w14.cell? ⟨r, 4, none⟩ = some (.bool en.t.v') := R14.cell 4
        have q5 : w14.cell? ⟨r, 5, none⟩ = some (.int .u64 en.t.hi') := R14.cell 5
        have q6 : w14.cell? ⟨r, 6, none⟩ = some (.int .u64 en.t.lo') := R14.cell 6
        have q7 : w14.cell? ⟨r, 7, none⟩ = some (.int .i64 en.t.sp) := R14.cell 7
        have q8 : w14.cell? ⟨r, 8, none⟩ = some (.int .i64 en.t.dp) := R14.cell 8
        have p0 : w14.cell? ⟨(px + 1), 0, none⟩ = some (.int .i64 y.p) := PY14.cell 0
        have p1 : w14.cell? ⟨(px + 1), 1, none⟩ = some (.bool y.v) := PY14.cell 1
        have p2 : w14.cell? ⟨(px + 1), 2, none⟩ = some (.int .u64 y.hi) := PY14.cell 2
        have p3 : w14.cell? ⟨(px + 1), 3, none⟩ = some (.int .u64 y.lo) := PY14.cell 3
        have p4 : w14.cell? ⟨(px + 1), 4, none⟩ = some (.bool y.v') := PY14.cell 4
        have p5 : w14.cell? ⟨(px + 1), 5, none⟩ = some (.int .u64 y.hi') := PY14.cell 5
        have p6 : w14.cell? ⟨(px + 1), 6, none⟩ = some (.int .u64 y.lo') := PY14.cell 6
        have p7 : w14.cell? ⟨(px + 1), 7, none⟩ = some (.int .i64 y.sp) := PY14.cell 7
        have p8 : w14.cell? ⟨(px + 1), 8, none⟩ = some (.int .i64 y.dp) := PY14.cell 8
        have z0 : w14.cell? ⟨px, 0, none⟩ = some (.int .i64 x.p) := PX14.cell 0
        have z1 : w14.cell? ⟨px, 1, none⟩ = some (.bool x.v) := PX14.cell 1
        have z2 : w14.cell? ⟨px, 2, none⟩ = some (.int .u64 x.hi) := PX14.cell 2
        have z3 : w14.cell? ⟨px, 3, none⟩ = some (.int .u64 x.lo) := PX14.cell 3
        have z4 : w14.cell? ⟨px, 4, none⟩ = some (.bool x.v') := PX14.cell 4
        have z5 : w14.cell? ⟨px, 5, none⟩ = some (.int .u64 x.hi') := PX14.cell 5
        have z6 : w14.cell? ⟨px, 6, none⟩ = some (.int .u64 x.lo') := PX14.cell 6
        have z7 : w14.cell? ⟨px, 7, none⟩ = some (.int .i64 x.sp) := PX14.cell 7
        have z8 : w14.cell? ⟨px, 8, none⟩ = some (.int .i64 x.dp) := PX14.cell 8
        have hE1 : ∀ W, (binOp .eql 39 y.val en.t.val).run Try.prog W = .ok (.bool bfy) W := fun W => by rw [tup_eql, tupB_comm, hbfy.out]
        have hE2 : ∀ W, (binOp .eql 39 x.val en.t.val).run Try.prog W = .ok (.bool bfx) W := fun W => by rw [tup_eql, tupB_comm, hbfx.out]
        have hq1 : (bfy == bfy) = true := by simp
        have hq2 : (bfx == bfx) = true := by simp
        have hbF := hT14.below
        replace hT14 := Lib.hid hT14
        clear R14 PX14 PY14 Q14
        go_wp2_with (go_at_call 6; (with_reducible refine (awake19 _).mono ?_); rintro e v15 ⟨rfl, hb15⟩)
        go_ret
        exact ⟨rfl, below_chain hb15 hbF⟩
end Go.Proofs.Ytmkknjhalcocmaa

namespace Go.Proofs.Ytmkknjhalcocmaa
open Go Go.RowKit Go.Deep Go.Maps Go.ChangeMaps

/-- A step: who is not behind it any more has a generation more; at most one slot is looked at. -/
def StepR (n : Nat) (s s' : TSt) : Prop :=
  (∀ k : Nat, k < n → (s'.E k).gen = if (s.E k).used && !(s'.E k).used then IntKind.u64.wrap ((s.E k).gen + 1) else (s.E k).gen) ∧ (s'.lk = s.lk ∨ s'.lk = s.lk + 1)
section
variable {n : Nat} {s s' : TSt}
theorem StepR.refl (n : Nat) (s : TSt) : StepR n s s := ⟨fun k _ => by cases (s.E k).used <;> rfl, .inl rfl⟩
theorem look_lk (h : 0 ≤ s.lk ∧ s.lk ≤ 1000) (i : Int) : (lookS n i s).lk = s.lk ∨ (lookS n i s).lk = s.lk + 1 := by
  unfold lookS
  split
  · right
    show wrap64 (s.lk + 1) = s.lk + 1
    unfold wrap64
    omega
  · exact .inl rfl
theorem stepR_look (h : 0 ≤ s.lk ∧ s.lk ≤ 1000) (i : Int) : StepR n s (lookS n i s) := ⟨fun k _ => by rw [lookS_E]; cases (s.E k).used <;> rfl, look_lk h i⟩
theorem stepR_gone (h : 0 ≤ s.lk ∧ s.lk ≤ 1000) (i : Int) {k : Nat} (hu : (s.E k).used = true) : StepR n s (goS n (lookS n i s) k) := by
  refine ⟨fun j _ => ?_, look_lk h i⟩
  show (updE (lookS n i s).E k (clrS ((lookS n i s).E k)) j).gen = if (s.E j).used && !(updE (lookS n i s).E k (clrS ((lookS n i s).E k)) j).used then _ else _
  rw [lookS_E]
  by_cases e : j = k
  · subst e
    rw [updE_self, hu]
    rfl
  · rw [updE_ne _ _ e]
    cases (s.E j).used <;> rfl
theorem stepR_put (h : 0 ≤ s.lk ∧ s.lk ≤ 1000) (i : Int) {k : Nat} {x : Slt} (hx : x.used = true) (hg : x.gen = (s.E k).gen) {s' : TSt} (hE : s'.E = updE s.E k x) (hl : s'.lk = (lookS n i s).lk) : StepR n s s' := by
  refine ⟨fun j _ => ?_, by rw [hl]; exact look_lk h i⟩
  rw [hE]
  by_cases e : j = k
  · subst e
    rw [updE_self, hx, hg]
    cases (s.E j).used <;> rfl
  · rw [updE_ne _ _ e]
    cases (s.E j).used <;> rfl
theorem stepR_close (h : 0 ≤ s.lk ∧ s.lk ≤ 1000) (i : Int) : StepR n s (closeS n s i) := by
  cases hc : closeOk n s i
  · rw [closeS_no hc]
    exact stepR_look h i
  · obtain ⟨k, rfl, hk, hu⟩ := closeOk_iff.1 hc
    rw [closeS_yes hc, Int.toNat_natCast]
    exact stepR_gone h _ hu
theorem stepR_touch {c : TCfg} (h : 0 ≤ s.lk ∧ s.lk ≤ 1000) (i fl : Int) : StepR n s (touchS c n s i fl) := by
  cases hc : closeOk n s i
  · rw [touchS_no hc]
    exact stepR_look h i
  · obtain ⟨k, rfl, hk, hu⟩ := closeOk_iff.1 hc
    by_cases h4 : nextS (s.E ((k : Int)).toNat).st fl = 4
    · rw [touchS_gone hc h4, Int.toNat_natCast]
      exact stepR_gone h _ hu
    · rw [touchS_stay hc h4]
      refine stepR_put (i := k) (k := k) (x := touchV c n s k fl) h ?_ ?_ rfl rfl
      · rw [touchV_stay hc h4, Int.toNat_natCast]
        exact hu
      · rw [touchV_stay hc h4, Int.toNat_natCast]
        rfl
theorem stepR_open {c : TCfg} (hi : TI n s) (h : 0 ≤ s.lk ∧ s.lk ≤ 1000) (t : Tup) (bk fl : Int) : StepR n s (openS c n s t bk fl) := by
  cases ho : openOk t bk fl
  · rw [openS_no ho]
    exact StepR.refl n s
  · cases hL : s.L with
    | nil => rw [openS_full hL]; exact StepR.refl n s
    | cons i l =>
      have hi := hi.rng i (by rw [hL]; exact List.mem_cons_self)
      obtain ⟨k, rfl⟩ : ∃ k : Nat, i = (k : Int) := ⟨i.toNat, by omega⟩
      rw [openS_yes ho hL, openV_yes ho hL, Int.toNat_natCast]
      exact stepR_put (i := k) (k := k) (x := { openX (s.E k) t bk fl with due := dueT c s.now (beginS t.p fl) }) h rfl rfl rfl rfl
theorem stepR_of (P : Nat → Prop) [DecidablePred P] (hE : ∀ k : Nat, k < n → (s'.E k) = if P k then clrS (s.E k) else s.E k) (hu : ∀ k : Nat, k < n → P k → (s.E k).used = true) (hl : s'.lk = s.lk) : StepR n s s' := by
  refine ⟨fun k hk => ?_, .inl hl⟩
  rw [hE k hk]
  by_cases hp : P k
  · rw [if_pos hp, hu k hk hp]
    rfl
  · rw [if_neg hp]
    cases (s.E k).used <;> rfl
theorem stepR_go (hi : TI n s) {G nw : Int} {S : List Int} (hS : GoS G s.now nw s.M S) : StepR n s (goTab n s nw S) := by
  obtain ⟨-, h2, -, -, -, h6⟩ := hi.go hS
  refine stepR_of (fun k => (k : Int) ∈ S) (fun k _ => h2 k) (fun k hk hp => ?_) h6
  cases hg : goOk s.now nw
  · rw [hS.no hg] at hp
    cases hp
  · have := (hi.has _).1 ((hS.mem hg _).1 hp).1
    rw [Int.toNat_natCast] at this
    exact this.2.2
theorem stepR_drop (hi : TI n s) (P : Slt → Bool) : StepR n s (dropS n s (allL s.E P n)) := by
  obtain ⟨-, h2, -, -, h6⟩ := hi.drop P
  refine stepR_of (fun k => ((s.E k).used && P (s.E k)) = true) h2 (fun k _ hp => ?_) h6
  rw [Bool.and_eq_true] at hp
  exact hp.1
/-- Who is live, by slots. -/
theorem mem_liveL {x : Slt} : x ∈ liveL n s ↔ ∃ k : Nat, k < n ∧ (s.E k).used = true ∧ s.E k = x := by
  unfold liveL entsOf allL
  rw [List.mem_map]
  constructor
  · rintro ⟨k, hk, rfl⟩
    rw [List.mem_filter, List.mem_range, Bool.and_true] at hk
    exact ⟨k, hk.1, hk.2, rfl⟩
  · rintro ⟨k, hk, hu, rfl⟩
    exact ⟨k, by rw [List.mem_filter, List.mem_range, Bool.and_true]; exact ⟨hk, hu⟩, rfl⟩
def atB (L : List Slt) (k : Nat) : Bool := L.any fun x => x.sl == (k : Int)
theorem at_live (hi : TI n s) {k : Nat} (hk : k < n) : atB (liveL n s) k = (s.E k).used := by
  unfold atB
  rw [Bool.eq_iff_iff, List.any_eq_true]
  constructor
  · rintro ⟨x, hx, e⟩
    obtain ⟨j, hj, hu, rfl⟩ := mem_liveL.1 hx
    rw [hi.sl j hj, beq_iff_eq] at e
    have : j = k := by omega
    exact this ▸ hu
  · intro hu
    exact ⟨s.E k, mem_liveL.2 ⟨k, hk, hu, rfl⟩, by rw [hi.sl k hk]; simp⟩
theorem count_two (L : List Int) : ∀ n : Nat, L.Nodup → (∀ x ∈ L, 0 ≤ x ∧ x < n) → ((List.range n).filter fun k : Nat => !decide ((k : Int) ∈ L)).length + L.length = n
  | 0, _, h => by
    have : L = [] := List.eq_nil_iff_forall_not_mem.2 fun x hx => by have := h x hx; omega
    subst this
    rfl
  | n + 1, hn, h => by
    rw [List.range_succ, List.filter_append, List.length_append]
    by_cases hm : (n : Int) ∈ L
    · have hp := List.perm_cons_erase hm
      have ih := count_two (L.erase n) n (hn.erase _) (fun x hx => by
        have h1 := h x (List.mem_of_mem_erase hx)
        have h2 : x ≠ n := fun e => by rw [e] at hx; exact (hn.not_mem_erase) hx
        omega)
      have e : ((List.range n).filter fun k : Nat => !decide ((k : Int) ∈ L)) = (List.range n).filter fun k : Nat => !decide ((k : Int) ∈ L.erase n) := by
        refine List.filter_congr fun k hk => ?_
        have hk := List.mem_range.1 hk
        congr 1
        rw [decide_eq_decide, List.mem_erase_of_ne (by omega)]
      rw [e]
      have hl := List.length_erase_of_mem hm
      have hpos : 0 < L.length := List.length_pos_of_mem hm
      simp [hm]
      omega
    · have ih := count_two L n hn (fun x hx => by
        have h1 := h x hx
        have h2 : x ≠ n := fun e => hm (e ▸ hx)
        omega)
      simp [hm]
      omega
theorem live_free (hi : TI n s) : (liveL n s).length + s.L.length = n := by
  have h := count_two s.L n hi.nd hi.rng
  refine Eq.trans ?_ h
  unfold liveL entsOf allL
  rw [List.length_map]
  congr 2
  refine List.filter_congr fun k hk => ?_
  have := hi.used k (List.mem_range.1 hk)
  rw [Bool.and_true, Bool.eq_iff_iff, this]
  simp
theorem any_live {x : Slt} (hm : x ∈ liveL n s) : (liveL n s).any (fun y => entB y x) = true := by
  rw [List.any_eq_true]
  refine ⟨x, hm, ?_⟩
  unfold entB
  simp [tupB_self]
end
theorem any_take {α : Type} (L : List α) (p : α → Bool) {j : Nat} (hj : j < L.length) : (L.take (j + 1)).any p = ((L.take j).any p || p L[j]) := by
  rw [List.take_succ_eq_append_getElem hj, List.any_append]
  simp
theorem at19 (w : World) (base q : Nat) (A : Option Addr) (L : List Slt) (hO : OwnE w base A q L) (hl : L.length ≤ 1000000) (k : Nat) :
    Calls Try.prog 18 #[.slice A L.length q, .int .i64 k] w fun e w' => e = .returned (.bool (atB L k)) ∧ w = w' := by
  have hr := hO.reads
  obtain ⟨bv, hbv⟩ : ∃ bv, atB L k = bv := ⟨_, rfl⟩
  rw [hbv]
  replace hr := Lib.hid hr
  replace hO := Lib.hid hO
  go_enter Try.func18, Try.ntmps18
  go_wp2_with fail
  go_loop [5] (fun iv => ∃ j : Nat, j ≤ L.length ∧ iv = .int .i64 (j : Nat) ∧ (L.take j).any (fun x => x.sl == (k : Int)) = false) (fun iv => L.length - (intOf iv).toNat)
  case atStart => exact ⟨0, by omega, rfl, rfl⟩
  case round =>
    obtain ⟨j, hj, rfl, hno⟩ := hrel
    by_cases hlt : j < L.length
    · have hlti : (j : Int) < (L.length : Int) := by omega
      obtain ⟨ad, rfl, hbl, hc⟩ := hr.out.rec_at Slt.ent (fun _ => rfl) hlt
      have c11 : w.cell? ⟨(ad.add (j * 14)).block, (ad.add (j * 14)).off + 11, none⟩ = some (.int .i64 L[j].sl) := hc 11 _ rfl
      have hs := any_take L (fun x => x.sl == (k : Int)) hlt
      rw [hno, Bool.false_or] at hs
      by_cases he : L[j].sl = (k : Int)
      · have hb : bv = true := by
          rw [← hbv]
          unfold atB
          rw [List.any_eq_true]
          exact ⟨L[j], List.getElem_mem hlt, by simpa using he⟩
        subst hb
        have x1 : (L[j].sl == (k : Int)) = true := by simpa using he
        replace hbv := Lib.hid hbv
        replace hs := Lib.hid hs
        replace he := Lib.hid he
        clear hc
        generalize L[j].sl = z at *
        go_wp2_with fail
        go_ret
        exact ⟨rfl, rfl⟩
      · have x1 : (L[j].sl == (k : Int)) = false := by simpa using he
        rw [x1] at hs
        replace hbv := Lib.hid hbv
        replace hs := Lib.hid hs
        replace he := Lib.hid he
        clear hc
        generalize L[j].sl = z at *
        go_wp2_with fail
        go_round
        case rel => exact ⟨j + 1, by omega, by go_num, hs.out⟩
        case measure => simp [intOf]; omega
    · obtain rfl : j = L.length := by omega
      have hlti : ¬ (L.length : Int) < (L.length : Int) := by omega
      rw [List.take_length] at hno
      have hb : bv = false := by rw [← hbv]; exact hno
      subst hb
      replace hbv := Lib.hid hbv
      go_wp2_with fail
      go_ret
      exact ⟨rfl, rfl⟩
end Go.Proofs.Ytmkknjhalcocmaa

namespace Go.Proofs.Ytmkknjhalcocmaa
open Go Go.RowKit Go.Deep Go.Maps Go.ChangeMaps

theorem info_u64T : (Try.prog.info? 34).map (fun i => (i.zero, i.size, i.bytes)) = some (some (.int .u64 0), 1, 8) := by kernel_rfl
theorem gen_cases {ub ua : Bool} {g1 g2 : Int} (h : g2 = if (ub && !ua) = true then IntKind.u64.wrap (g1 + 1) else g1) :
    (ub = true ∧ ua = false ∧ IntKind.u64.wrap (g1 + 1) = g2) ∨ (ub = false ∧ ua = false ∧ g2 = g1) ∨ (ub = false ∧ ua = true ∧ g2 = g1) ∨ (ub = true ∧ ua = true ∧ g2 = g1) := by
  cases ub <;> cases ua
  · exact .inr (.inl ⟨rfl, rfl, h⟩)
  · exact .inr (.inr (.inl ⟨rfl, rfl, h⟩))
  · exact .inl ⟨rfl, rfl, h.symm⟩
  · exact .inr (.inr (.inr ⟨rfl, rfl, h⟩))
set_option maxRecDepth 100000 in
set_option maxHeartbeats 16000000 in
theorem tableWhole_calls (b : Int) (hb8 : 0 ≤ b ∧ b ≤ 255) (l : List TStp) (B : Option Addr) (d : Nat) (w : World) (hr : Reads w w.heap.size 15 B l.length (l.flatMap TStp.cells)) (hl : l.length ≤ 9223372036854775807) :
    Calls Try.prog 3 #[.int .u8 b, .slice B l.length d] w fun e w' => e = .returned (.bool true) ∧ Below w.heap.size w w' := by
  have hwb : IntKind.i64.wrap b = b := by simp [IntKind.wrap, IntKind.bits, IntKind.signed]; omega
  obtain ⟨m, hm, hm4⟩ : ∃ m : Nat, b % 5 = (m : Int) ∧ m ≤ 4 := ⟨(b % 5).toNat, by omega, by omega⟩
  have htb : b.tmod 5 = (m : Int) := (Int.tmod_eq_emod_of_nonneg (by omega)).trans hm
  by_cases h40 : 40 < l.length
  · have e40 : decide ((40 : Int) < (l.length : Int)) = true := by simp; omega
    clear hr
    go_enter Try.func3, Try.ntmps3
    go_wp2_with (go_at_call 6; (with_reducible refine (awake19 _).mono ?_); rintro e w2 ⟨rfl, hb1⟩)
    go_ret
    exact ⟨rfl, hb1⟩
  have e40 : decide ((40 : Int) < (l.length : Int)) = false := by simp; omega
  have NW : Calls Try.prog 7 #[.int .i64 m, .agg #[.int .i64 3, .int .i64 20, .int .i64 5, .int .i64 8], .int .i64 4] w _ := tabn_new (w0 := w) (w := w) (K := fun _ => False) m (by omega) 3 20 5 8 rfl 4 (by omega) (Below.refl _ _) (fun b hb => hb.elim) lwC_right
  obtain ⟨n, hn⟩ : ∃ n : Nat, 2 ^ m = n := ⟨_, rfl⟩
  rw [hn] at NW
  have hsh : IntKind.i64.wrap (2 ^ m) = (n : Int) := by
    have e : ((2 : Int) ^ m) = (n : Int) := by rw [← hn]; simp
    have : n ≤ 16 := by rw [← hn]; exact Nat.le_trans (Nat.pow_le_pow_right (by omega) hm4) (by decide)
    rw [e]
    simp [IntKind.wrap, IntKind.bits, IntKind.signed]
    omega
  have hn16 : n ≤ 16 := by rw [← hn]; exact Nat.le_trans (Nat.pow_le_pow_right (by omega) hm4) (by decide)
  replace NW := Lib.hid NW
  replace hr := Lib.hid hr
  replace hn := Lib.hid hn
  go_enter Try.func3, Try.ntmps3
  go_upto_region 5 with (go_at_call 7; (with_reducible refine NW.out.mono ?_); rintro e w2 ⟨g, sb, rfl, hT0, -⟩)
  clear NW
  replace hT0 := Lib.hid hT0
  go_wp2_with fail
  go_loopg [8] l.length (fun gk iv wr => ∃ (k : Nat) (s : TSt), k + gk = l.length ∧ iv = .int .i64 (k : Nat) ∧ TabN w wr g sb n lwC s (fun _ => False) ∧ 0 ≤ s.lk ∧ s.lk ≤ (k : Int))
  case atStart => exact ⟨0, _, by omega, rfl, hT0.out, Int.le_refl _, Int.le_refl _⟩
  case round =>
    obtain ⟨k, s, hk, rfl, hT, hlk⟩ := hrel
    clear hT0
    by_cases hlt : k < l.length
    · have hlti : (k : Int) < (l.length : Int) := by omega
      have hti := hT.ti
      have LV := Lib.hid (tabn_live hT)
      replace hT := Lib.hid hT
      go_upto_region 11 with (go_at_call 8; (with_reducible refine LV.out.mono ?_); rintro e w3 ⟨A1, q1, rfl, hO1, hb3⟩)
      have hT3 := (hT.out.call hb3).mono (K' := fun b => wr.heap.size ≤ b ∧ b < w3.heap.size) (fun b hb => .inr hb)
      have LK := Lib.hid (tabn_looks hT3)
      have hmk := run_make_row' (P := Try.prog) 33 34 (.int .u64 0) 8 Try.underlying33 info_u64T rfl .i64 .i64 n (by omega) (by omega)
      go_upto_region 13 with (go_at_call 9; (with_reducible refine LK.out.mono ?_); rintro e w4 ⟨rfl, rfl⟩)
      have hm0 := World.rowIs_made w3 (.int .u64 0) n 34
      have hT4 := hT3.alloc (.cells (madeCells #[.int .u64 0] n) 34)
      have hO4 := hO1.call (below_alloc (Below.refl w3.heap.size w3) (.cells (madeCells #[.int .u64 0] n) 34))
      have hIn : ∀ b, InB A1 b → wr.heap.size ≤ b ∧ b < w3.heap.size := fun b hb => hO1.block hb
      have hz3 := hb3.size
      have hwz := hT3.size
      have hwr := hT.out.size
      obtain ⟨gb, hgb⟩ : ∃ gb, w3.heap.size = gb := ⟨_, rfl⟩
      rw [hgb] at hm0 hT4 hIn hz3 hwz
      try rw [hgb]
      generalize w3.alloc (.cells (madeCells #[.int .u64 0] n) 34) = w4 at *
      clear hmk LK LV hT3 hO1 hb3 hT
      replace hO4 := Lib.hid hO4
      replace hT4 := Lib.hid hT4
      replace hm0 := Lib.hid hm0
      replace hti := Lib.hid hti
      obtain ⟨wo, rfl⟩ : ∃ wo, wo = wr := ⟨wr, rfl⟩
      obtain ⟨go_, rfl⟩ : ∃ go_, go_ = gk := ⟨gk, rfl⟩
      go_wp2_with fail
      go_loopg [12] n (fun g2 iv wx => ∃ j : Nat, j + g2 = n ∧ iv = .int .i64 (j : Nat) ∧ wx.rowIs gb 34 n (fun i => .int .u64 (if i < j then (s.E i).gen else 0)) ∧ Chg (· = gb) w4 wx)
      case atStart => exact ⟨0, by omega, rfl, hm0.out.congr fun i hi => by rw [if_neg (by omega)], Chg.refl _ _⟩
      case round =>
        obtain ⟨j, hj, rfl, hm, hc⟩ := hrel
        have hT5 := hT4.out.chg hc (fun b e => .inr e) (fun b e => by have e2 : b = gb := e; omega)
        by_cases hjn : j < n
        · have hjni : (j : Int) < (n : Int) := by omega
          have hlj : lookOk n (j : Int) = true := by unfold lookOk; simp; omega
          have GN := tabn_gen hT5 j
          unfold genI at GN
          rw [hlj, if_pos rfl, Int.toNat_natCast] at GN
          replace GN := Lib.hid GN
          have cm := hm.cell hjn
          have fm := hm.frozen j
          have hm2 : (wr.setCell ⟨gb, j, none⟩ (.int .u64 (s.E j).gen)).rowIs gb 34 n (fun i => .int .u64 (if i < j + 1 then (s.E i).gen else 0)) := (hm.set j (.int .u64 (s.E j).gen)).congr fun i hi => by
            by_cases e : i = j
            · subst e
              simp
            · by_cases e2 : i < j
              · simp [e, e2, show i < j + 1 by omega]
              · simp [e, e2, show ¬ i < j + 1 by omega]
          have hc2 : Chg (· = gb) w4 (wr.setCell ⟨gb, j, none⟩ (.int .u64 (s.E j).gen)) := Chg.setCell (F := (· = gb)) (p := ⟨gb, j, none⟩) hc (fun _ => rfl) _
          replace hm2 := Lib.hid hm2
          replace hc2 := Lib.hid hc2
          replace hT5 := Lib.hid hT5
          clear hm
          go_wp2_with (go_at_call 10; (with_reducible refine GN.out.mono ?_); rintro e w8 ⟨rfl, rfl⟩)
          go_roundg (gk - 1)
          case measure => omega
          case rel => exact ⟨j + 1, by omega, by go_num, hm2.out, hc2.out⟩
        · obtain rfl : j = n := by omega
          have hjni : ¬ (j : Int) < (j : Int) := by omega
          have hGr : wr.rowIs gb 34 j (fun i => .int .u64 (s.E i).gen) := hm.congr fun i hi => by rw [if_pos hi]
          have hO5 := OwnA.chg hO4.out hc (fun b hb e => by have := hIn b hb; have e2 : b = gb := e; omega)
          have hG5 := hm
          clear hm hc hm0 hO4 hT4 hG5
          have hbw := hT5.below
          obtain ⟨ad, st, rfl, hbl, -, c0, c1, c2, c3, c4, c5, c6, c7, c8, c9, c10, c11, c12, c13, c14⟩ := tstp_at15 (hr.out.below hbw) hlt
          replace hT5 := Lib.hid hT5
          replace hGr := Lib.hid hGr
          replace hO5 := Lib.hid hO5
          go_upto_region 18 with fail
          change Code.wp _ _ _ _ (wr.alloc (.cells st.cells.toArray 41))
          have S := Blk.new wr 41 st.cells.toArray
          have hT6 := hT5.out.alloc (.cells st.cells.toArray 41)
          have hba := below_alloc (Below.refl wr.heap.size wr) (.cells st.cells.toArray 41)
          have hO6 := hO5.out.call hba
          have hG6 := hGr.out.of_block (hba.block gb hGr.out.lt)
          have hlg := hGr.out.lt
          obtain ⟨r, hr2⟩ : ∃ r, wr.heap.size = r := ⟨_, rfl⟩
          rw [hr2] at S hT6 hlg
          try rw [hr2]
          generalize wr.alloc (.cells st.cells.toArray 41) = w6 at *
          clear c0 c1 c2 c3 c4 c5 c6 c7 c8 c9 c10 c11 c12 c13 c14 hT5 hO5 hGr hba
          have s0 : w6.cell? ⟨r, 0, none⟩ = some (.int .i64 st.kd) := S.cell 0
          have s1 : w6.cell? ⟨r, 1, none⟩ = some (.int .i64 st.tu.p) := S.cell 1
          have s2 : w6.cell? ⟨r, 2, none⟩ = some (.bool st.tu.v) := S.cell 2
          have s3 : w6.cell? ⟨r, 3, none⟩ = some (.int .u64 st.tu.hi) := S.cell 3
          have s4 : w6.cell? ⟨r, 4, none⟩ = some (.int .u64 st.tu.lo) := S.cell 4
          have s5 : w6.cell? ⟨r, 5, none⟩ = some (.bool st.tu.v') := S.cell 5
          have s6 : w6.cell? ⟨r, 6, none⟩ = some (.int .u64 st.tu.hi') := S.cell 6
          have s7 : w6.cell? ⟨r, 7, none⟩ = some (.int .u64 st.tu.lo') := S.cell 7
          have s8 : w6.cell? ⟨r, 8, none⟩ = some (.int .i64 st.tu.sp) := S.cell 8
          have s9 : w6.cell? ⟨r, 9, none⟩ = some (.int .i64 st.tu.dp) := S.cell 9
          have s10 : w6.cell? ⟨r, 10, none⟩ = some (.int .i64 st.sl) := S.cell 10
          have s11 : w6.cell? ⟨r, 11, none⟩ = some (.int .i64 st.n) := S.cell 11
          have s12 : w6.cell? ⟨r, 12, none⟩ = some (.int .i64 st.bk) := S.cell 12
          have s13 : w6.cell? ⟨r, 13, none⟩ = some (.int .u64 st.low) := S.cell 13
          have s14 : w6.cell? ⟨r, 14, none⟩ = some (.int .i64 st.bt) := S.cell 14
          have hKl : ∀ b, ((wo.heap.size ≤ b ∧ b < gb ∨ b = gb) ∨ b = r) → b < w6.heap.size := fun b hb => by
            have := S.lt
            omega
          have hlkb : 0 ≤ s.lk ∧ s.lk ≤ 1000 := by omega
          replace hT6 := Lib.hid hT6
          replace hO6 := Lib.hid hO6
          replace hG6 := Lib.hid hG6
          replace hKl := Lib.hid hKl
          obtain ⟨wp, rfl⟩ : ∃ wp, wp = wr := ⟨wr, rfl⟩
          replace hk := Lib.hid hk
          replace hlkb := Lib.hid hlkb
          obtain ⟨kd, hkd⟩ : ∃ kd, st.kd = kd := ⟨_, rfl⟩
          rw [hkd] at s0
          replace hkd := Lib.hid hkd
          clear hr
          go_upto_block 4 with fail
          go_cut [14, 15, 16, 17] from 38 to 229 (fun x14 x15 x16 x17 wx => ∃ s' : TSt, StepR j s s' ∧ TabN w wx g sb j lwC s' (fun b => (wo.heap.size ≤ b ∧ b < gb ∨ b = gb) ∨ b = r) ∧ Chg (Nk w (fun b => (wo.heap.size ≤ b ∧ b < gb ∨ b = gb) ∨ b = r)) w6 wx)
          case first =>
           as_aux_lemma =>
            have K0 := Lib.hid (tabn_open hT6.out hKl.out st.tu st.bk st.n)
            have K1 := Lib.hid (tabn_find hT6.out hKl.out st.tu st.sl st.low st.bt)
            have K2 := Lib.hid (tabn_touch hT6.out hKl.out st.sl st.n)
            have K3 := Lib.hid (tabn_close hT6.out hKl.out st.sl)
            have K4 := Lib.hid (tabn_go hT6.out hKl.out st.n)
            have K5 := Lib.hid (tabn_drop hT6.out hKl.out st.bk)
            have hkc : kd = 0 ∨ kd = 2 ∨ kd = 3 ∨ kd = 4 ∨ kd = 5 ∨ kd = 1 ∨ ((kd == 0) = false ∧ (kd == 1) = false ∧ (kd == 2) = false ∧ (kd == 3) = false ∧ (kd == 4) = false ∧ (kd == 5) = false) := by
              simp only [beq_eq_false_iff_ne]
              omega
            rcases hkc with rfl | rfl | rfl | rfl | rfl | rfl | ⟨e0, e1, e2, e3, e4, e5⟩
            · go_wp2_with (go_at_call 11; (with_reducible refine K0.out.mono ?_); rintro e v2 ⟨rfl, hT2, hc2⟩)
              go_meet
              exact ⟨_, stepR_open hti.out hlkb.out _ _ _, hT2, hc2⟩
            · go_wp2_with (go_at_call 13; (with_reducible refine K2.out.mono ?_); rintro e v2 ⟨rfl, hT2, hc2⟩)
              go_meet
              exact ⟨_, stepR_touch hlkb.out _ _, hT2, hc2⟩
            · go_wp2_with (go_at_call 14; (with_reducible refine K3.out.mono ?_); rintro e v2 ⟨rfl, hT2, hc2⟩)
              go_meet
              exact ⟨_, stepR_close hlkb.out _, hT2, hc2⟩
            · go_wp2_with (go_at_call 15; (with_reducible refine K4.out.mono ?_); rintro e v2 ⟨B4, q4, S4, rfl, hS4, -, -, hT2, hc2⟩)
              go_meet
              exact ⟨_, stepR_go hti.out hS4, hT2, hc2⟩
            · go_wp2_with (go_at_call 16; (with_reducible refine K5.out.mono ?_); rintro e v2 ⟨B4, q4, rfl, -, hT2, hc2⟩)
              go_meet
              exact ⟨_, stepR_drop hti.out _, hT2, hc2⟩
            · as_aux_lemma =>
              have hfx : findOk j s st.tu st.sl st.low st.bt = true → findV j s st.tu st.sl st.low st.bt ∈ liveL j s ∧ (findV j s st.tu st.sl st.low st.bt).t = st.tu ∧ (findV j s st.tu st.sl st.low st.bt).sl = st.sl := fun h => by
                have hv : findV j s st.tu st.sl st.low st.bt = s.E st.sl.toNat := by unfold findV; rw [h]; rfl
                unfold findOk at h
                rw [Bool.and_eq_true, Bool.and_eq_true, Bool.and_eq_true] at h
                obtain ⟨k2, hk2, hk3, hk4⟩ := closeOk_iff.1 h.1
                rw [hv, hk2, Int.toNat_natCast]
                rw [hk2, Int.toNat_natCast] at h
                exact ⟨mem_liveL.2 ⟨k2, hk3, hk4, rfl⟩, tupB_iff.1 h.2.2.1, hti.out.sl k2 hk3⟩
              generalize findV j s st.tu st.sl st.low st.bt = fv at *
              generalize findOk j s st.tu st.sl st.low st.bt = fo at *
              replace hfx := Lib.hid hfx
              go_upto_region 23 with (go_at_call 12; (with_reducible refine K1.out.mono ?_); rintro e v2 ⟨rfl, hT2, hc2⟩)
              change Code.wp _ _ _ _ (v2.alloc (.cells fv.entA 43))
              have hal := below_alloc (Below.refl v2.heap.size v2) (.cells fv.entA 43)
              have V := Blk.new v2 43 fv.entA
              have hO7 := (OwnA.chg hO6.out hc2 (fun b hb e => e.2 (.inl (.inl (hIn b hb))))).call hal
              have S7 := (S.chg hc2 (fun e => e.2 (.inr rfl))).call hal
              have hT7 := hT2.call0 hal
              have hc7 : Chg (Nk w (fun b => (wo.heap.size ≤ b ∧ b < gb ∨ b = gb) ∨ b = r)) w6 _ := hc2.trans (G := fun _ => False) (Chg.of_below hal) (fun b _ h => h.elim)
              obtain ⟨q, hq⟩ : ∃ q, v2.heap.size = q := ⟨_, rfl⟩
              rw [hq] at V
              try rw [hq]
              generalize v2.alloc (.cells fv.entA 43) = w7 at *
              have hLl : (liveL j s).length ≤ 4096 := by
                have := live_free hti.out
                omega
              have han : fo = true → (liveL j s).any (fun y => entB y fv) = true := fun h => any_live (hfx.out h).1
              have hft : fo = true → fv.t = st.tu ∧ fv.sl = st.sl := fun h => (hfx.out h).2
              have hSR := stepR_look (n := j) hlkb.out st.sl
              generalize liveL j s = LL at *
              replace han := Lib.hid han
              replace hft := Lib.hid hft
              replace hSR := Lib.hid hSR
              replace hT7 := Lib.hid hT7
              replace hO7 := Lib.hid hO7
              replace hc7 := Lib.hid hc7
              replace V := Lib.hid V
              replace S7 := Lib.hid S7
              clear K0 K1 K2 K3 K4 K5 hT2 hc2 hal hO6 hG6 hT6 hKl hfx s0 s1 s2 s3 s4 s5 s6 s7 s8 s9 s10 s11 s12 s13 s14
              go_wp2_with fail
              go_loopg [16, 17] LL.length (fun g3 isv iv wx => ∃ i : Nat, i + g3 = LL.length ∧ iv = .int .i64 (i : Nat) ∧ isv = .bool ((LL.take i).any (fun y => entB y fv)) ∧ Below w7.heap.size w7 wx)
              case atStart => exact ⟨0, by omega, rfl, rfl, Below.refl _ _⟩
              case round =>
                obtain ⟨i, hi, rfl, rfl, hbx⟩ := hrel
                have V8 := V.out.call hbx
                by_cases hil : i < LL.length
                · have hili : (i : Int) < (LL.length : Int) := by omega
                  have hst := any_take LL (fun y => entB y fv) hil
                  obtain ⟨a1, rfl, hbl1, hc⟩ := (hO7.out.call hbx).reads.rec_at Slt.ent (fun _ => rfl) hil
                  have hEQ := fun W => ent_eql LL[i] fv W
                  generalize LL[i] = x at *
                  obtain ⟨bq, hbq⟩ : ∃ bq, (LL.take i).any (fun y => entB y fv) = bq := ⟨_, rfl⟩
                  obtain ⟨be, hbe⟩ : ∃ be, entB x fv = be := ⟨_, rfl⟩
                  rw [hbq, hbe] at hst
                  rw [hbe] at hEQ
                  rw [hbq]
                  have c0 : wr.cell? (a1.add (i * 14)) = some (.int .i64 x.t.p) := hc 0 _ rfl
                  have c1 : wr.cell? ⟨(a1.add (i * 14)).block, (a1.add (i * 14)).off + 1, none⟩ = some (.bool x.t.v) := hc 1 _ rfl
                  have c2 : wr.cell? ⟨(a1.add (i * 14)).block, (a1.add (i * 14)).off + 2, none⟩ = some (.int .u64 x.t.hi) := hc 2 _ rfl
                  have c3 : wr.cell? ⟨(a1.add (i * 14)).block, (a1.add (i * 14)).off + 3, none⟩ = some (.int .u64 x.t.lo) := hc 3 _ rfl
                  have c4 : wr.cell? ⟨(a1.add (i * 14)).block, (a1.add (i * 14)).off + 4, none⟩ = some (.bool x.t.v') := hc 4 _ rfl
                  have c5 : wr.cell? ⟨(a1.add (i * 14)).block, (a1.add (i * 14)).off + 5, none⟩ = some (.int .u64 x.t.hi') := hc 5 _ rfl
                  have c6 : wr.cell? ⟨(a1.add (i * 14)).block, (a1.add (i * 14)).off + 6, none⟩ = some (.int .u64 x.t.lo') := hc 6 _ rfl
                  have c7 : wr.cell? ⟨(a1.add (i * 14)).block, (a1.add (i * 14)).off + 7, none⟩ = some (.int .i64 x.t.sp) := hc 7 _ rfl
                  have c8 : wr.cell? ⟨(a1.add (i * 14)).block, (a1.add (i * 14)).off + 8, none⟩ = some (.int .i64 x.t.dp) := hc 8 _ rfl
                  have c9 : wr.cell? ⟨(a1.add (i * 14)).block, (a1.add (i * 14)).off + 9, none⟩ = some (.int .i64 x.bk) := hc 9 _ rfl
                  have c10 : wr.cell? ⟨(a1.add (i * 14)).block, (a1.add (i * 14)).off + 10, none⟩ = some (.int .i64 x.st) := hc 10 _ rfl
                  have c11 : wr.cell? ⟨(a1.add (i * 14)).block, (a1.add (i * 14)).off + 11, none⟩ = some (.int .i64 x.sl) := hc 11 _ rfl
                  have c12 : wr.cell? ⟨(a1.add (i * 14)).block, (a1.add (i * 14)).off + 12, none⟩ = some (.int .u64 x.gen) := hc 12 _ rfl
                  have c13 : wr.cell? ⟨(a1.add (i * 14)).block, (a1.add (i * 14)).off + 13, none⟩ = some (.int .i64 x.due) := hc 13 _ rfl
                  have f0 : wr.cell? ⟨q, 0, none⟩ = some (.int .i64 fv.t.p) := V8.cell 0
                  have f1 : wr.cell? ⟨q, 1, none⟩ = some (.bool fv.t.v) := V8.cell 1
                  have f2 : wr.cell? ⟨q, 2, none⟩ = some (.int .u64 fv.t.hi) := V8.cell 2
                  have f3 : wr.cell? ⟨q, 3, none⟩ = some (.int .u64 fv.t.lo) := V8.cell 3
                  have f4 : wr.cell? ⟨q, 4, none⟩ = some (.bool fv.t.v') := V8.cell 4
                  have f5 : wr.cell? ⟨q, 5, none⟩ = some (.int .u64 fv.t.hi') := V8.cell 5
                  have f6 : wr.cell? ⟨q, 6, none⟩ = some (.int .u64 fv.t.lo') := V8.cell 6
                  have f7 : wr.cell? ⟨q, 7, none⟩ = some (.int .i64 fv.t.sp) := V8.cell 7
                  have f8 : wr.cell? ⟨q, 8, none⟩ = some (.int .i64 fv.t.dp) := V8.cell 8
                  have f9 : wr.cell? ⟨q, 9, none⟩ = some (.int .i64 fv.bk) := V8.cell 9
                  have f10 : wr.cell? ⟨q, 10, none⟩ = some (.int .i64 fv.st) := V8.cell 10
                  have f11 : wr.cell? ⟨q, 11, none⟩ = some (.int .i64 fv.sl) := V8.cell 11
                  have f12 : wr.cell? ⟨q, 12, none⟩ = some (.int .u64 fv.gen) := V8.cell 12
                  have f13 : wr.cell? ⟨q, 13, none⟩ = some (.int .i64 fv.due) := V8.cell 13
                  replace hst := Lib.hid hst
                  replace hbq := Lib.hid hbq
                  replace hbe := Lib.hid hbe
                  clear hc V8
                  cases bq
                  all_goals
                    go_wp2_with fail
                    go_quiet (fail)
                    clear c0 c1 c2 c3 c4 c5 c6 c7 c8 c9 c10 c11 c12 c13 f0 f1 f2 f3 f4 f5 f6 f7 f8 f9 f10 f11 f12 f13 hEQ
                    go_wp2_with fail
                    go_roundg (gk - 1)
                    case measure => omega
                    case rel => exact ⟨i + 1, by omega, by go_num, by rw [hst.out]; rfl, below_drewN hbx nq⟩
                · obtain rfl : i = LL.length := by omega
                  have hili : ¬ (LL.length : Int) < (LL.length : Int) := by omega
                  rw [List.take_length]
                  have S8 := S7.out.call hbx
                  have hT8 := hT7.out.call0 hbx
                  have hc8 : Chg (Nk w (fun b => (wo.heap.size ≤ b ∧ b < gb ∨ b = gb) ∨ b = r)) w6 _ := hc7.out.trans (G := fun _ => False) (Chg.of_below hbx) (fun b _ h => h.elim)
                  replace hT8 := Lib.hid hT8
                  replace hc8 := Lib.hid hc8
                  cases fo
                  · clear V8 S8
                    go_wp2_with fail
                    go_meet
                    exact ⟨_, hSR.out, hT8.out, hc8.out⟩
                  · obtain ⟨hf1, hf2⟩ := hft.out rfl
                    have ha := han.out rfl
                    rw [ha]
                    have hss : (st.sl != st.sl) = false := by simp
                    have hNE : ∀ W, (binOp .neq 39 st.tu.val st.tu.val).run Try.prog W = .ok (.bool false) W := fun W => by rw [tup_neq, tupB_self]; rfl
                    have f0 : wr.cell? ⟨q, 0, none⟩ = some (.int .i64 st.tu.p) := by rw [← hf1]; exact V8.cell 0
                    have f1 : wr.cell? ⟨q, 1, none⟩ = some (.bool st.tu.v) := by rw [← hf1]; exact V8.cell 1
                    have f2 : wr.cell? ⟨q, 2, none⟩ = some (.int .u64 st.tu.hi) := by rw [← hf1]; exact V8.cell 2
                    have f3 : wr.cell? ⟨q, 3, none⟩ = some (.int .u64 st.tu.lo) := by rw [← hf1]; exact V8.cell 3
                    have f4 : wr.cell? ⟨q, 4, none⟩ = some (.bool st.tu.v') := by rw [← hf1]; exact V8.cell 4
                    have f5 : wr.cell? ⟨q, 5, none⟩ = some (.int .u64 st.tu.hi') := by rw [← hf1]; exact V8.cell 5
                    have f6 : wr.cell? ⟨q, 6, none⟩ = some (.int .u64 st.tu.lo') := by rw [← hf1]; exact V8.cell 6
                    have f7 : wr.cell? ⟨q, 7, none⟩ = some (.int .i64 st.tu.sp) := by rw [← hf1]; exact V8.cell 7
                    have f8 : wr.cell? ⟨q, 8, none⟩ = some (.int .i64 st.tu.dp) := by rw [← hf1]; exact V8.cell 8
                    have f11 : wr.cell? ⟨q, 11, none⟩ = some (.int .i64 st.sl) := by rw [← hf2]; exact V8.cell 11
                    have s1 : wr.cell? ⟨r, 1, none⟩ = some (.int .i64 st.tu.p) := S8.cell 1
                    have s2 : wr.cell? ⟨r, 2, none⟩ = some (.bool st.tu.v) := S8.cell 2
                    have s3 : wr.cell? ⟨r, 3, none⟩ = some (.int .u64 st.tu.hi) := S8.cell 3
                    have s4 : wr.cell? ⟨r, 4, none⟩ = some (.int .u64 st.tu.lo) := S8.cell 4
                    have s5 : wr.cell? ⟨r, 5, none⟩ = some (.bool st.tu.v') := S8.cell 5
                    have s6 : wr.cell? ⟨r, 6, none⟩ = some (.int .u64 st.tu.hi') := S8.cell 6
                    have s7 : wr.cell? ⟨r, 7, none⟩ = some (.int .u64 st.tu.lo') := S8.cell 7
                    have s8 : wr.cell? ⟨r, 8, none⟩ = some (.int .i64 st.tu.sp) := S8.cell 8
                    have s9 : wr.cell? ⟨r, 9, none⟩ = some (.int .i64 st.tu.dp) := S8.cell 9
                    have s10 : wr.cell? ⟨r, 10, none⟩ = some (.int .i64 st.sl) := S8.cell 10
                    clear V8 S8
                    go_wp2_with fail
                    go_meet
                    exact ⟨_, hSR.out, hT8.out, hc8.out⟩
            · go_wp2_with fail
              go_meet
              exact ⟨s, StepR.refl _ _, hT6.out, Chg.refl _ _⟩
          case rest =>
           as_aux_lemma =>
            obtain ⟨s', hst, hT, hc⟩ := hcut
            have hO7 := OwnA.chg hO6.out hc (fun b hb e => e.2 (.inl (.inl (hIn b hb))))
            have hG7 := hG6.out.of_block (hc.block hG6.out.lt (fun e => e.2 (.inl (.inr rfl))))
            have LV := Lib.hid (tabn_live hT)
            have hti' := hT.ti
            have hsum := live_free hti'
            have hlk' := hst.2
            clear S hO6 hG6 hKl hT6 hc s0 s1 s2 s3 s4 s5 s6 s7 s8 s9 s10 s11 s12 s13 s14
            replace hT := Lib.hid hT
            replace hst := Lib.hid hst
            replace hti' := Lib.hid hti'
            go_upto_region 39 with (go_at_call 8; (with_reducible refine LV.out.mono ?_); rintro e w9 ⟨A2, q2, rfl, hO9, hb9⟩)
            have hT9 := hT.out.call0 hb9
            have hO8 := hO7.call hb9
            have hG8 := hG7.of_block (hb9.block gb hG7.lt)
            have FRq := Lib.hid fun m : Nat => show Calls Try.prog 17 #[.pointer (some ⟨g, 0, none⟩)] (w9.drewN m) fun e w' => e = .returned (.int .i64 (s'.L.length : Nat)) ∧ w' = w9.drewN m from (tabn_free (hT9.drewN m)).mono fun _ _ h => And.intro h.1 h.2.symm
            have LKq := Lib.hid fun m : Nat => show Calls Try.prog 9 #[.pointer (some ⟨g, 0, none⟩)] (w9.drewN m) fun e w' => e = .returned (.int .i64 s'.lk) ∧ w' = w9.drewN m from (tabn_looks (hT9.drewN m)).mono fun _ _ h => And.intro h.1 h.2.symm
            have x1 : IntKind.i64.wrap (((liveL j s').length : Int) + (s'.L.length : Int)) = (j : Int) := by
              have e : ((liveL j s').length : Int) + (s'.L.length : Int) = (j : Int) := by omega
              rw [e]
              simp [IntKind.wrap, IntKind.bits, IntKind.signed]
              omega
            have x2 : ((j : Int) != (j : Int)) = false := by simp
            have x3 : IntKind.i64.wrap (s.lk + 1) = s.lk + 1 := by
              have := hlkb.out
              simp [IntKind.wrap, IntKind.bits, IntKind.signed]
              omega
            have x4 : decide (s.lk + 1 < s'.lk) = false := by simp; omega
            have x5 : decide (s'.lk < s.lk) = false := by simp; omega
            have hlk2 : 0 ≤ s'.lk ∧ s'.lk ≤ ((k + 1 : Nat) : Int) := by omega
            replace hT9 := Lib.hid hT9
            replace hO8 := Lib.hid hO8
            replace hO9 := Lib.hid hO9
            replace hG8 := Lib.hid hG8
            replace hlk2 := Lib.hid hlk2
            have hLl : (liveL j s).length ≤ 1000000 := by
              have := live_free hti.out
              omega
            have hLl2 : (liveL j s').length ≤ 1000000 := by omega
            replace hlk' := Lib.hid hlk'
            replace hlk := Lib.hid hlk
            replace hsum := Lib.hid hsum
            clear LV hO7 hG7 hT hb9
            go_quiet (first
              | (go_at_call 17; with_reducible exact Calls.quiet_of_same (FRq.out _))
              | (go_at_call 9; with_reducible exact Calls.quiet_of_same (LKq.out _)))
            have hb10 := below_drewN (Below.refl w9.heap.size w9) nq
            generalize w9.drewN nq = w10 at *
            clear FRq LKq x1 x3 x4 x5
            go_wp2_with fail
            go_loopg [19] j (fun g4 iv wx => ∃ i : Nat, i + g4 = j ∧ iv = .int .i64 (i : Nat) ∧ Below w9.heap.size w9 wx)
            case atStart => exact ⟨0, by omega, rfl, hb10⟩
            case round =>
              obtain ⟨i, hi, rfl, hbx⟩ := hrel
              by_cases hij : i < j
              · have hiji : (i : Int) < (j : Int) := by omega
                have hlo : lookOk j (i : Int) = true := by unfold lookOk; simp; omega
                have FG := Lib.hid fun W (hb : Below w9.heap.size w9 W) => show (∀ m : Nat, Calls Try.prog 10 #[.pointer (some ⟨g, 0, none⟩), .int .i64 (i : Int)] (W.drewN m) fun e w' => e = .returned (.int .u64 (s'.E i).gen) ∧ w' = W.drewN m) ∧ W.cell? ⟨gb, i, none⟩ = some (.int .u64 (s.E i).gen) from by
                  refine ⟨fun m => (tabn_gen ((hT9.out.call0 hb).drewN m) i).mono fun _ _ h => And.intro ?_ h.2.symm, (hG8.out.of_block (hb.block gb hG8.out.lt)).cell hij⟩
                  rw [h.1]
                  unfold genI
                  rw [hlo, if_pos rfl, Int.toNat_natCast]
                have hsg := hst.out.1 i hij
                have AW := at19 wr _ _ _ _ (hO8.out.call hbx) hLl i
                have AN := at19 wr _ _ _ _ (hO9.out.call hbx) hLl2 i
                rw [at_live hti.out hij] at AW
                rw [at_live hti'.out hij] at AN
                replace AW := Lib.hid AW
                replace AN := Lib.hid AN
                obtain ⟨GN, cg⟩ := FG.out wr hbx
                obtain ⟨g1, hg1⟩ : ∃ g1, (s.E i).gen = g1 := ⟨_, rfl⟩
                obtain ⟨g2, hg2⟩ : ∃ g2, (s'.E i).gen = g2 := ⟨_, rfl⟩
                obtain ⟨ub, hub⟩ : ∃ ub, (s.E i).used = ub := ⟨_, rfl⟩
                obtain ⟨ua, hua⟩ : ∃ ua, (s'.E i).used = ua := ⟨_, rfl⟩
                rw [hub] at AW hsg
                rw [hua] at AN hsg
                rw [hg1, hg2] at FG hsg
                rw [hg1] at cg
                rw [hg2] at GN
                replace hg1 := Lib.hid hg1
                replace hg2 := Lib.hid hg2
                replace hub := Lib.hid hub
                replace hua := Lib.hid hua
                replace GN := Lib.hid GN
                go_upto_region 45 with (first
                  | (go_at_call 18; (with_reducible refine AW.out.mono ?_); rintro e w8 ⟨rfl, rfl⟩)
                  | (go_at_call 18; (with_reducible refine AN.out.mono ?_); rintro e w8 ⟨rfl, rfl⟩))
                have hcs := gen_cases hsg
                clear hsg
                rcases hcs with ⟨rfl, rfl, hw⟩ | ⟨rfl, rfl, rfl⟩ | ⟨rfl, rfl, rfl⟩ | ⟨rfl, rfl, rfl⟩
                all_goals
                  have hnn : (g2 != g2) = false := by simp
                  go_quiet (first
                    | (go_at_call 10; with_reducible exact Calls.quiet_of_same (GN.out _)))
                  have hb11 := below_drewN hbx nq
                  obtain ⟨GN2, cg2⟩ := FG.out _ hb11
                  replace GN2 := Lib.hid GN2
                  generalize wr.drewN nq = w11 at *
                  clear GN cg AW AN
                  go_wp2_with fail
                  go_quiet (first
                    | (go_at_call 10; with_reducible exact Calls.quiet_of_same (GN2.out _)))
                  have hb12 := below_drewN hb11 nq
                  go_wp2_with fail
                  go_roundg (gk - 1)
                  case measure => omega
                  case rel => exact ⟨i + 1, by omega, by go_num, hb12⟩
              · obtain rfl : i = j := by omega
                have hiji : ¬ (i : Int) < (i : Int) := by omega
                have hT12 := (hT9.out.call0 hbx).mono (K' := fun _ => False) (fun _ h => h.elim)
                replace hT12 := Lib.hid hT12
                go_wp2_with fail
                go_roundg (go_ - 1)
                case measure => have := hk.out; omega
                case rel => exact ⟨k + 1, s', by have := hk.out; omega, by go_num, hT12.out, hlk2.out.1, hlk2.out.2⟩
    · obtain rfl : k = l.length := by omega
      have hlti : ¬ (l.length : Int) < (l.length : Int) := by omega
      have hbF := hT.below
      replace hT := Lib.hid hT
      go_wp2_with (go_at_call 6; (with_reducible refine (awake19 _).mono ?_); rintro e v15 ⟨rfl, hb15⟩)
      go_ret
      exact ⟨rfl, below_chain hb15 hbF⟩
end Go.Proofs.Ytmkknjhalcocmaa
