/- table: tables that nobody made. table: the chapter's example, called. -/
import Derived.Test.YtbmmklgkbbbopaaGreatJ30
namespace Go.Proofs.YtbmmklgkbbbopaaGreat
open Go Go.RowKit Go.Deep Go.Maps Go.ChangeMaps

section
variable {w w1 w2 w3 : World} {g : Nat}
theorem tab_free_nil (w : World) : Calls Tryz.prog 59 #[.pointer none] w fun e w' => e = .returned (.int .i64 0) ∧ w = w' := by
  go_enter Tryz.func59, Tryz.ntmps59
  go_wp2_with (go_at_call 68; (with_reducible refine (tab_given_nil _).mono ?_); rintro e w1 ⟨rfl, rfl⟩)
  go_ret
  exact ⟨rfl, rfl⟩
theorem tab_looks_plain (h : Blk w g 111 tabZ) : Calls Tryz.prog 58 #[.pointer (some ⟨g, 0, none⟩)] w fun e w' => e = .returned (.int .i64 0) ∧ w = w' := by
  have GV := Lib.hid (tab_given_plain h)
  clear h
  go_enter Tryz.func58, Tryz.ntmps58
  go_wp2_with (go_at_call 68; (with_reducible refine GV.out.mono ?_); rintro e w1 ⟨rfl, rfl⟩)
  go_ret
  exact ⟨rfl, rfl⟩
theorem tab_go_plain (h : Blk w g 111 tabZ) (nw : Int) : Calls Tryz.prog 53 #[.pointer (some ⟨g, 0, none⟩), .int .i64 nw] w fun e w' => e = .returned (.tuple #[.slice none 0 0, .int .i64 1]) ∧ w = w' := by
  have GV := Lib.hid (tab_given_plain h)
  clear h
  go_enter Tryz.func53, Tryz.ntmps53
  go_wp2_with (go_at_call 68; (with_reducible refine GV.out.mono ?_); rintro e w1 ⟨rfl, rfl⟩)
  go_ret2
  exact ⟨by simp, rfl⟩
theorem tab_all_nil (f : Value) (w : World) : Calls Tryz.prog 97 #[.pointer none, f] w fun e w' => e = .returned (.slice none 0 0) ∧ w = w' := by
  go_enter Tryz.func97, Tryz.ntmps97
  go_wp2_with (go_at_call 68; (with_reducible refine (tab_given_nil _).mono ?_); rintro e w1 ⟨rfl, rfl⟩)
  go_ret
  exact ⟨rfl, rfl⟩
theorem tab_all_plain (h : Blk w g 111 tabZ) (f : Value) : Calls Tryz.prog 97 #[.pointer (some ⟨g, 0, none⟩), f] w fun e w' => e = .returned (.slice none 0 0) ∧ w = w' := by
  have GV := Lib.hid (tab_given_plain h)
  clear h
  go_enter Tryz.func97, Tryz.ntmps97
  go_wp2_with (go_at_call 68; (with_reducible refine GV.out.mono ?_); rintro e w1 ⟨rfl, rfl⟩)
  go_ret
  exact ⟨rfl, rfl⟩
theorem tab_live_nil (w : World) : Calls Tryz.prog 57 #[.pointer none] w fun e w' => e = .returned (.slice none 0 0) ∧ w = w' := by
  go_enter Tryz.func57, Tryz.ntmps57
  go_wp2_with (go_at_call 97; (with_reducible refine (tab_all_nil _ _).mono ?_); rintro e w1 ⟨rfl, rfl⟩)
  go_loop [3, 9] (fun ov kv => kv = .int .i64 0 ∧ ov = .slice none 0 0) (fun _ _ => 0)
  case atStart => exact ⟨rfl, rfl⟩
  case round =>
    obtain ⟨rfl, rfl⟩ := hrel
    go_wp2_with fail
    go_ret
    exact ⟨rfl, rfl⟩
theorem tab_drop_plain (h : Blk w g 111 tabZ) (bk : Int) : Calls Tryz.prog 55 #[.pointer (some ⟨g, 0, none⟩), .int .i64 bk] w fun e w' => e = .returned (.slice none 0 0) ∧ Below w.heap.size w w' := by
  have hb0 : Below w.heap.size w (w.alloc (.cells #[.int .i64 bk] 3)) := below_alloc (Below.refl _ _) _
  have AL := Lib.hid fun f => tab_all_plain (h.call hb0) f
  clear h
  go_enter Tryz.func55, Tryz.ntmps55
  go_upto_region 1 with fail
  generalize w.alloc (.cells #[.int .i64 bk] 3) = w1 at *
  go_wp2_with (go_at_call 97; (with_reducible refine (AL.out _).mono ?_); rintro e w2 ⟨rfl, rfl⟩)
  go_loop [5, 12] (fun ov kv => kv = .int .i64 0 ∧ ov = .slice none 0 0) (fun _ _ => 0)
  case atStart => exact ⟨rfl, rfl⟩
  case round =>
    obtain ⟨rfl, rfl⟩ := hrel
    go_wp2_with fail
    go_ret
    exact ⟨rfl, hb0⟩
theorem tab_look_nil (i : Int) (w : World) : Calls Tryz.prog 71 #[.pointer none, .int .i64 i] w fun e w' => e = .returned (.pointer none) ∧ w = w' := by
  go_enter Tryz.func71, Tryz.ntmps71
  go_wp2_with (go_at_call 68; (with_reducible refine (tab_given_nil _).mono ?_); rintro e w1 ⟨rfl, rfl⟩)
  go_ret
  exact ⟨rfl, rfl⟩
set_option maxRecDepth 100000 in
set_option maxHeartbeats 4000000 in
theorem tab_find_nil (t : Tup) (i low bt : Int) (w : World) : Calls Tryz.prog 47 #[.pointer none, t.val, .int .i64 i, .int .u64 low, .int .i64 bt] w fun e w' => e = .returned (.tuple #[slt0.val, .bool false]) ∧ Below w.heap.size w w' := by
  have hb0 : Below w.heap.size w (w.alloc (.cells t.cells.toArray 47)) := below_alloc (Below.refl _ _) _
  have B1 := Blk.new (w.alloc (.cells t.cells.toArray 47)) 52 slt0.entA
  have hb1 : Below w.heap.size w ((w.alloc (.cells t.cells.toArray 47)).alloc (.cells slt0.entA 52)) := below_alloc hb0 _
  rw [World.size_alloc] at B1
  clear hb0
  replace B1 := Lib.hid B1
  go_enter Tryz.func47, Tryz.ntmps47
  go_upto_region 1 with fail
  change Code.wp _ _ _ _ ((w.alloc (.cells t.cells.toArray 47)).alloc (.cells slt0.entA 52))
  obtain ⟨r, hr⟩ : ∃ r, w.heap.size + 1 = r := ⟨_, rfl⟩
  obtain ⟨p, hp⟩ : ∃ p, w.heap.size = p := ⟨_, rfl⟩
  rw [hr] at B1
  generalize (w.alloc (.cells t.cells.toArray 47)).alloc (.cells slt0.entA 52) = w1 at *
  try rw [hr]
  try rw [hp]
  have B2 := B1
  have hbW := hb1
  obtain ⟨r0, r1, r2, r3, r4, r5, r6, r7, r8, r9, r10, r11, r12, r13, rf⟩ := ent_blk B2.out
  go_wp2_with (go_at_call 71; (with_reducible refine (tab_look_nil _ _).mono ?_); rintro e w8 ⟨rfl, rfl⟩)
  change bodyPost _ _ _ _ _ (setEnt w1 r slt0)
  obtain ⟨B6, hc6⟩ := setEnt_blk B2.out slt0
  have hb6 : Below w.heap.size w (setEnt w1 r slt0) := below_chg hbW hc6 (fun b hb e => by have e2 : b = r := e; omega) hbW.size
  generalize setEnt w1 r slt0 = w6 at *
  clear r0 r1 r2 r3 r4 r5 r6 r7 r8 r9 r10 r11 r12 r13 rf
  obtain ⟨r0, r1, r2, r3, r4, r5, r6, r7, r8, r9, r10, r11, r12, r13, -⟩ := ent_blk B6
  clear B6 hc6
  replace hb6 := Lib.hid hb6
  refine bodyPost_ret (v := .tuple #[(slt0).val, .bool false]) (by simp [results, Tryz.results47, go_sem, r0, r1, r2, r3, r4, r5, r6, r7, r8, r9, r10, r11, r12, r13]) rfl ?_
  exact ⟨rfl, by have := hb6.out; rwa [hp] at *⟩
set_option maxRecDepth 100000 in
set_option maxHeartbeats 4000000 in
theorem tab_open_nil (t : Tup) (bk fl : Int) (w : World) : Calls Tryz.prog 42 #[.pointer none, t.val, .int .i64 bk, .int .i64 fl] w fun e w' => e = .returned (.tuple #[slt0.val, .int .i64 1]) ∧ Below w.heap.size w w' := by
  have hb0 : Below w.heap.size w (w.alloc (.cells t.cells.toArray 47)) := below_alloc (Below.refl _ _) _
  have P0 := Blk.new w 47 t.cells.toArray
  have B1 := Blk.new (w.alloc (.cells t.cells.toArray 47)) 52 slt0.entA
  have P1 := P0.alloc (.cells slt0.entA 52)
  have hb1 : Below w.heap.size w ((w.alloc (.cells t.cells.toArray 47)).alloc (.cells slt0.entA 52)) := below_alloc hb0 _
  rw [World.size_alloc] at B1
  clear hb0 P0
  replace B1 := Lib.hid B1
  go_enter Tryz.func42, Tryz.ntmps42
  go_upto_region 1 with fail
  change Code.wp _ _ _ _ ((w.alloc (.cells t.cells.toArray 47)).alloc (.cells slt0.entA 52))
  obtain ⟨r, hr⟩ : ∃ r, w.heap.size + 1 = r := ⟨_, rfl⟩
  obtain ⟨p, hp⟩ : ∃ p, w.heap.size = p := ⟨_, rfl⟩
  rw [hr] at B1
  rw [hp] at P1
  generalize (w.alloc (.cells t.cells.toArray 47)).alloc (.cells slt0.entA 52) = w1 at *
  try rw [hr]
  try rw [hp]
  have BG := Lib.hid fun W => begin_any t.p fl W
  have p0 : w1.cell? ⟨p, 0, none⟩ = some (.int .i64 t.p) := P1.cell 0
  clear P1
  have B2 := B1
  have hbW := hb1
  obtain ⟨r0, r1, r2, r3, r4, r5, r6, r7, r8, r9, r10, r11, r12, r13, rf⟩ := ent_blk B2.out
  go_wp2_with (first
    | (go_at_call 67; (with_reducible refine (BG.out _).mono ?_); rintro e w8 ⟨rfl, rfl⟩)
    | (go_at_call 68; (with_reducible refine (tab_given_nil _).mono ?_); rintro e w8 ⟨rfl, rfl⟩))
  change bodyPost _ _ _ _ _ (setEnt w1 r slt0)
  obtain ⟨B6, hc6⟩ := setEnt_blk B2.out slt0
  have hb6 : Below w.heap.size w (setEnt w1 r slt0) := below_chg hbW hc6 (fun b hb e => by have e2 : b = r := e; omega) hbW.size
  generalize setEnt w1 r slt0 = w6 at *
  clear r0 r1 r2 r3 r4 r5 r6 r7 r8 r9 r10 r11 r12 r13 rf
  obtain ⟨r0, r1, r2, r3, r4, r5, r6, r7, r8, r9, r10, r11, r12, r13, -⟩ := ent_blk B6
  clear B6 hc6
  replace hb6 := Lib.hid hb6
  refine bodyPost_ret (v := .tuple #[(slt0).val, .int .i64 1]) (by simp [results, Tryz.results42, go_sem, r0, r1, r2, r3, r4, r5, r6, r7, r8, r9, r10, r11, r12, r13]) rfl ?_
  exact ⟨rfl, by have := hb6.out; rwa [hp] at *⟩
end
end Go.Proofs.YtbmmklgkbbbopaaGreat

namespace Go.Proofs.YtbmmklgkbbbopaaGreat
open Go Go.RowKit Go.Deep Go.Maps Go.ChangeMaps

theorem right_idle {a b c d G : Int} (h : rightS a b c d = true) : TCfg.right ⟨a, b, c, d, G⟩ := by
  intro st
  unfold rightS okT at h
  simp at h
  show 0 ≤ idleS a b c d st ∧ idleS a b c d st ≤ 1048576
  unfold idleS
  repeat' split
  all_goals omega
abbrev awT : Tup := ⟨17, false, 0, 0, false, 0, 0, 0, 0⟩
def awC : TCfg := ⟨1, 1, 1, 1, 1⟩
def awS0 : TSt := ⟨0, [], upto 1 0, fun k => { slt0 with sl := k }, 0⟩
def awS1 : TSt := openS awC 1 awS0 awT 1 0
def awS2 : TSt := openS awC 1 awS1 awT 1 0
def awS3 : TSt := closeS 1 awS2 0
theorem aw_facts : openE awS0 awT 1 0 = 0 ∧ (openV awC awS0 awT 1 0).gen = 0 ∧ openE awS1 awT 1 0 = 9 ∧ closeOk 1 awS2 0 = true ∧ openE awS3 awT 1 0 = 0 ∧ (openV awC awS3 awT 1 0).sl = 0 ∧ (openV awC awS3 awT 1 0).gen = 1 := by
  refine ⟨?_, ?_, ?_, ?_, ?_, ?_, ?_⟩ <;> rfl
end Go.Proofs.YtbmmklgkbbbopaaGreat
