/- Bare of the document at each kind. -/
import Derived.Test.YtodbgjnccngljaaGreatDoorJ24
namespace Go.Proofs.YtodbgjnccngljaaGreatDoor
open Go Go.RowKit Go.Deep
set_option maxRecDepth 100000 in
set_option maxHeartbeats 8000000 in
theorem rs_bare0 (at_ id n : Int) (s : List UInt8) (a b : Nat) (on v6 : Bool) (hi lo : Nat) (pk ps : Int) (w : World) :
  Calls Tryz.prog 42 #[.agg #[.int .i64 0, .int .i64 at_, .int .i64 id, .int .i64 n, .string ⟨s.toArray⟩, .int .u64 ((a : Nat) : Int), .int .u64 ((b : Nat) : Int), .bool on, .bool v6, .int .u64 ((hi : Nat) : Int), .int .u64 ((lo : Nat) : Int), .int .i64 pk, .int .i64 ps]] w fun e w' => e = .returned (.agg #[.int .i64 0, .int .i64 0, .int .i64 id, .int .i64 n, .string ⟨#[]⟩, .int .u64 0, .int .u64 0, .bool on, .bool v6, .int .u64 ((hi : Nat) : Int), .int .u64 ((lo : Nat) : Int), .int .i64 pk, .int .i64 ps]) ∧ Below w.heap.size w w' := by
 obtain ⟨w1, hw1⟩ : ∃ w1, w1 = (w.alloc (.cells #[.int .i64 0, .int .i64 at_, .int .i64 id, .int .i64 n, .string ⟨s.toArray⟩, .int .u64 ((a : Nat) : Int), .int .u64 ((b : Nat) : Int), .bool on, .bool v6, .int .u64 ((hi : Nat) : Int), .int .u64 ((lo : Nat) : Int), .int .i64 pk, .int .i64 ps] 28)).alloc (.cells #[.int .i64 0, .int .i64 0, .int .i64 0, .int .i64 0, .string ⟨#[]⟩, .int .u64 0, .int .u64 0, .bool false, .bool false, .int .u64 0, .int .u64 0, .int .i64 0, .int .i64 0] 28) := ⟨_, rfl⟩
 have hb1 : Below w.heap.size w w1 := hw1 ▸ below_alloc (below_alloc (Below.refl _ _) _) _
 have h1 : Blk w1 w.heap.size 28 #[.int .i64 0, .int .i64 at_, .int .i64 id, .int .i64 n, .string ⟨s.toArray⟩, .int .u64 ((a : Nat) : Int), .int .u64 ((b : Nat) : Int), .bool on, .bool v6, .int .u64 ((hi : Nat) : Int), .int .u64 ((lo : Nat) : Int), .int .i64 pk, .int .i64 ps] := by rw [hw1]; exact (Blk.new w 28 #[.int .i64 0, .int .i64 at_, .int .i64 id, .int .i64 n, .string ⟨s.toArray⟩, .int .u64 ((a : Nat) : Int), .int .u64 ((b : Nat) : Int), .bool on, .bool v6, .int .u64 ((hi : Nat) : Int), .int .u64 ((lo : Nat) : Int), .int .i64 pk, .int .i64 ps]).alloc _
 have h2 : Blk w1 (w.heap.size + 1) 28 #[.int .i64 0, .int .i64 0, .int .i64 0, .int .i64 0, .string ⟨#[]⟩, .int .u64 0, .int .u64 0, .bool false, .bool false, .int .u64 0, .int .u64 0, .int .i64 0, .int .i64 0] := by
  rw [hw1]
  have := Blk.new (w.alloc (.cells #[.int .i64 0, .int .i64 at_, .int .i64 id, .int .i64 n, .string ⟨s.toArray⟩, .int .u64 ((a : Nat) : Int), .int .u64 ((b : Nat) : Int), .bool on, .bool v6, .int .u64 ((hi : Nat) : Int), .int .u64 ((lo : Nat) : Int), .int .i64 pk, .int .i64 ps] 28)) 28 #[.int .i64 0, .int .i64 0, .int .i64 0, .int .i64 0, .string ⟨#[]⟩, .int .u64 0, .int .u64 0, .bool false, .bool false, .int .u64 0, .int .u64 0, .int .i64 0, .int .i64 0]
  rw [show (w.alloc (.cells #[.int .i64 0, .int .i64 at_, .int .i64 id, .int .i64 n, .string ⟨s.toArray⟩, .int .u64 ((a : Nat) : Int), .int .u64 ((b : Nat) : Int), .bool on, .bool v6, .int .u64 ((hi : Nat) : Int), .int .u64 ((lo : Nat) : Int), .int .i64 pk, .int .i64 ps] 28)).heap.size = w.heap.size + 1 by simp] at this
  exact this
 have hne : ¬ w.heap.size = w.heap.size + 1 := by omega
 replace hne := Lib.hid hne
 replace hb1 := Lib.hid hb1
 have c0 : w1.cell? ⟨w.heap.size, 0, none⟩ = some (.int .i64 0) := Blk.cell h1 0
 have f0 := Blk.frozen h1 0
 have c1 : w1.cell? ⟨w.heap.size, 1, none⟩ = some (.int .i64 at_) := Blk.cell h1 1
 have f1 := Blk.frozen h1 1
 have c4 : w1.cell? ⟨w.heap.size, 4, none⟩ = some (.string ⟨s.toArray⟩) := Blk.cell h1 4
 have f4 := Blk.frozen h1 4
 have c5 : w1.cell? ⟨w.heap.size, 5, none⟩ = some (.int .u64 ((a : Nat) : Int)) := Blk.cell h1 5
 have f5 := Blk.frozen h1 5
 have c6 : w1.cell? ⟨w.heap.size, 6, none⟩ = some (.int .u64 ((b : Nat) : Int)) := Blk.cell h1 6
 have f6 := Blk.frozen h1 6
 go_enter Tryz.func42, Tryz.ntmps42
 go_upto_region 1 with fail
 rw [← hw1]
 clear hw1
 go_upto_region 31 with fail
 have p0 : Blk (w1.setCell ⟨w.heap.size, 1, none⟩ (.int .i64 0)) w.heap.size 28 #[.int .i64 0, .int .i64 0, .int .i64 id, .int .i64 n, .string ⟨s.toArray⟩, .int .u64 ((a : Nat) : Int), .int .u64 ((b : Nat) : Int), .bool on, .bool v6, .int .u64 ((hi : Nat) : Int), .int .u64 ((lo : Nat) : Int), .int .i64 pk, .int .i64 ps] := Blk.setAt h1 1 (.int .i64 0)
 have o0 : Blk (w1.setCell ⟨w.heap.size, 1, none⟩ (.int .i64 0)) (w.heap.size + 1) 28 #[.int .i64 0, .int .i64 0, .int .i64 0, .int .i64 0, .string ⟨#[]⟩, .int .u64 0, .int .u64 0, .bool false, .bool false, .int .u64 0, .int .u64 0, .int .i64 0, .int .i64 0] := Blk.setOff h2 hne.out 1 (.int .i64 0)
 have m0 : Below w.heap.size w (w1.setCell ⟨w.heap.size, 1, none⟩ (.int .i64 0)) := Below.setCell hb1.out (Nat.le_refl _) _
 have p1 : Blk ((w1.setCell ⟨w.heap.size, 1, none⟩ (.int .i64 0)).setCell ⟨w.heap.size, 5, none⟩ (.int .u64 0)) w.heap.size 28 #[.int .i64 0, .int .i64 0, .int .i64 id, .int .i64 n, .string ⟨s.toArray⟩, .int .u64 0, .int .u64 ((b : Nat) : Int), .bool on, .bool v6, .int .u64 ((hi : Nat) : Int), .int .u64 ((lo : Nat) : Int), .int .i64 pk, .int .i64 ps] := Blk.setAt p0 5 (.int .u64 0)
 have o1 : Blk ((w1.setCell ⟨w.heap.size, 1, none⟩ (.int .i64 0)).setCell ⟨w.heap.size, 5, none⟩ (.int .u64 0)) (w.heap.size + 1) 28 #[.int .i64 0, .int .i64 0, .int .i64 0, .int .i64 0, .string ⟨#[]⟩, .int .u64 0, .int .u64 0, .bool false, .bool false, .int .u64 0, .int .u64 0, .int .i64 0, .int .i64 0] := Blk.setOff o0 hne.out 5 (.int .u64 0)
 have m1 : Below w.heap.size w ((w1.setCell ⟨w.heap.size, 1, none⟩ (.int .i64 0)).setCell ⟨w.heap.size, 5, none⟩ (.int .u64 0)) := Below.setCell m0 (Nat.le_refl _) _
 have p2 : Blk (((w1.setCell ⟨w.heap.size, 1, none⟩ (.int .i64 0)).setCell ⟨w.heap.size, 5, none⟩ (.int .u64 0)).setCell ⟨w.heap.size, 6, none⟩ (.int .u64 0)) w.heap.size 28 #[.int .i64 0, .int .i64 0, .int .i64 id, .int .i64 n, .string ⟨s.toArray⟩, .int .u64 0, .int .u64 0, .bool on, .bool v6, .int .u64 ((hi : Nat) : Int), .int .u64 ((lo : Nat) : Int), .int .i64 pk, .int .i64 ps] := Blk.setAt p1 6 (.int .u64 0)
 have o2 : Blk (((w1.setCell ⟨w.heap.size, 1, none⟩ (.int .i64 0)).setCell ⟨w.heap.size, 5, none⟩ (.int .u64 0)).setCell ⟨w.heap.size, 6, none⟩ (.int .u64 0)) (w.heap.size + 1) 28 #[.int .i64 0, .int .i64 0, .int .i64 0, .int .i64 0, .string ⟨#[]⟩, .int .u64 0, .int .u64 0, .bool false, .bool false, .int .u64 0, .int .u64 0, .int .i64 0, .int .i64 0] := Blk.setOff o1 hne.out 6 (.int .u64 0)
 have m2 : Below w.heap.size w (((w1.setCell ⟨w.heap.size, 1, none⟩ (.int .i64 0)).setCell ⟨w.heap.size, 5, none⟩ (.int .u64 0)).setCell ⟨w.heap.size, 6, none⟩ (.int .u64 0)) := Below.setCell m1 (Nat.le_refl _) _
 have p3 : Blk ((((w1.setCell ⟨w.heap.size, 1, none⟩ (.int .i64 0)).setCell ⟨w.heap.size, 5, none⟩ (.int .u64 0)).setCell ⟨w.heap.size, 6, none⟩ (.int .u64 0)).setCell ⟨w.heap.size, 4, none⟩ (.string ⟨#[]⟩)) w.heap.size 28 #[.int .i64 0, .int .i64 0, .int .i64 id, .int .i64 n, .string ⟨#[]⟩, .int .u64 0, .int .u64 0, .bool on, .bool v6, .int .u64 ((hi : Nat) : Int), .int .u64 ((lo : Nat) : Int), .int .i64 pk, .int .i64 ps] := Blk.setAt p2 4 (.string ⟨#[]⟩)
 have o3 : Blk ((((w1.setCell ⟨w.heap.size, 1, none⟩ (.int .i64 0)).setCell ⟨w.heap.size, 5, none⟩ (.int .u64 0)).setCell ⟨w.heap.size, 6, none⟩ (.int .u64 0)).setCell ⟨w.heap.size, 4, none⟩ (.string ⟨#[]⟩)) (w.heap.size + 1) 28 #[.int .i64 0, .int .i64 0, .int .i64 0, .int .i64 0, .string ⟨#[]⟩, .int .u64 0, .int .u64 0, .bool false, .bool false, .int .u64 0, .int .u64 0, .int .i64 0, .int .i64 0] := Blk.setOff o2 hne.out 4 (.string ⟨#[]⟩)
 have m3 : Below w.heap.size w ((((w1.setCell ⟨w.heap.size, 1, none⟩ (.int .i64 0)).setCell ⟨w.heap.size, 5, none⟩ (.int .u64 0)).setCell ⟨w.heap.size, 6, none⟩ (.int .u64 0)).setCell ⟨w.heap.size, 4, none⟩ (.string ⟨#[]⟩)) := Below.setCell m2 (Nat.le_refl _) _
 generalize ((((w1.setCell ⟨w.heap.size, 1, none⟩ (.int .i64 0)).setCell ⟨w.heap.size, 5, none⟩ (.int .u64 0)).setCell ⟨w.heap.size, 6, none⟩ (.int .u64 0)).setCell ⟨w.heap.size, 4, none⟩ (.string ⟨#[]⟩)) = w2 at *
 go_wp2_with (first
  | (with_reducible refine wpList_load_blk rfl 28 (.tmp 1) rfl w.heap.size 0 rfl p3 [.int .i64 0, .int .i64 0, .int .i64 id, .int .i64 n, .string ⟨#[]⟩, .int .u64 0, .int .u64 0, .bool on, .bool v6, .int .u64 ((hi : Nat) : Int), .int .u64 ((lo : Nat) : Int), .int .i64 pk, .int .i64 ps] rfl _ Tryz.underlying28 rfl (by kernel_rfl) ?_)
  | (with_reducible refine wpList_store_blk rfl rfl 28 (.tmp 2) (.tmp 46) rfl (w.heap.size + 1) 0 rfl o3 [.int .i64 0, .int .i64 0, .int .i64 id, .int .i64 n, .string ⟨#[]⟩, .int .u64 0, .int .u64 0, .bool on, .bool v6, .int .u64 ((hi : Nat) : Int), .int .u64 ((lo : Nat) : Int), .int .i64 pk, .int .i64 ps] rfl (Nat.le_of_ble_eq_true (by kernel_rfl)) (by kernel_rfl) rfl ?_; intro wy hBy hcy hzy))
 refine bodyPost_ret (v := .agg #[.int .i64 0, .int .i64 0, .int .i64 id, .int .i64 n, .string ⟨#[]⟩, .int .u64 0, .int .u64 0, .bool on, .bool v6, .int .u64 ((hi : Nat) : Int), .int .u64 ((lo : Nat) : Int), .int .i64 pk, .int .i64 ps]) (results_cell rfl rfl (loadVar_blk 28 hBy [.int .i64 0, .int .i64 0, .int .i64 id, .int .i64 n, .string ⟨#[]⟩, .int .u64 0, .int .u64 0, .bool on, .bool v6, .int .u64 ((hi : Nat) : Int), .int .u64 ((lo : Nat) : Int), .int .i64 pk, .int .i64 ps] rfl _ Tryz.underlying28 rfl (by kernel_rfl))) rfl ?_
 exact ⟨rfl, m3.trans (hcy.below (fun b hb h => by omega) m3.size)⟩
set_option maxRecDepth 100000 in
set_option maxHeartbeats 8000000 in
theorem rs_bare1 (at_ id n : Int) (s : List UInt8) (a b : Nat) (on v6 : Bool) (hi lo : Nat) (pk ps : Int) (w : World) :
  Calls Tryz.prog 42 #[.agg #[.int .i64 1, .int .i64 at_, .int .i64 id, .int .i64 n, .string ⟨s.toArray⟩, .int .u64 ((a : Nat) : Int), .int .u64 ((b : Nat) : Int), .bool on, .bool v6, .int .u64 ((hi : Nat) : Int), .int .u64 ((lo : Nat) : Int), .int .i64 pk, .int .i64 ps]] w fun e w' => e = .returned (.agg #[.int .i64 1, .int .i64 at_, .int .i64 0, .int .i64 n, .string ⟨#[]⟩, .int .u64 ((a : Nat) : Int), .int .u64 ((b : Nat) : Int), .bool on, .bool v6, .int .u64 ((hi : Nat) : Int), .int .u64 ((lo : Nat) : Int), .int .i64 pk, .int .i64 ps]) ∧ Below w.heap.size w w' := by
 obtain ⟨w1, hw1⟩ : ∃ w1, w1 = (w.alloc (.cells #[.int .i64 1, .int .i64 at_, .int .i64 id, .int .i64 n, .string ⟨s.toArray⟩, .int .u64 ((a : Nat) : Int), .int .u64 ((b : Nat) : Int), .bool on, .bool v6, .int .u64 ((hi : Nat) : Int), .int .u64 ((lo : Nat) : Int), .int .i64 pk, .int .i64 ps] 28)).alloc (.cells #[.int .i64 0, .int .i64 0, .int .i64 0, .int .i64 0, .string ⟨#[]⟩, .int .u64 0, .int .u64 0, .bool false, .bool false, .int .u64 0, .int .u64 0, .int .i64 0, .int .i64 0] 28) := ⟨_, rfl⟩
 have hb1 : Below w.heap.size w w1 := hw1 ▸ below_alloc (below_alloc (Below.refl _ _) _) _
 have h1 : Blk w1 w.heap.size 28 #[.int .i64 1, .int .i64 at_, .int .i64 id, .int .i64 n, .string ⟨s.toArray⟩, .int .u64 ((a : Nat) : Int), .int .u64 ((b : Nat) : Int), .bool on, .bool v6, .int .u64 ((hi : Nat) : Int), .int .u64 ((lo : Nat) : Int), .int .i64 pk, .int .i64 ps] := by rw [hw1]; exact (Blk.new w 28 #[.int .i64 1, .int .i64 at_, .int .i64 id, .int .i64 n, .string ⟨s.toArray⟩, .int .u64 ((a : Nat) : Int), .int .u64 ((b : Nat) : Int), .bool on, .bool v6, .int .u64 ((hi : Nat) : Int), .int .u64 ((lo : Nat) : Int), .int .i64 pk, .int .i64 ps]).alloc _
 have h2 : Blk w1 (w.heap.size + 1) 28 #[.int .i64 0, .int .i64 0, .int .i64 0, .int .i64 0, .string ⟨#[]⟩, .int .u64 0, .int .u64 0, .bool false, .bool false, .int .u64 0, .int .u64 0, .int .i64 0, .int .i64 0] := by
  rw [hw1]
  have := Blk.new (w.alloc (.cells #[.int .i64 1, .int .i64 at_, .int .i64 id, .int .i64 n, .string ⟨s.toArray⟩, .int .u64 ((a : Nat) : Int), .int .u64 ((b : Nat) : Int), .bool on, .bool v6, .int .u64 ((hi : Nat) : Int), .int .u64 ((lo : Nat) : Int), .int .i64 pk, .int .i64 ps] 28)) 28 #[.int .i64 0, .int .i64 0, .int .i64 0, .int .i64 0, .string ⟨#[]⟩, .int .u64 0, .int .u64 0, .bool false, .bool false, .int .u64 0, .int .u64 0, .int .i64 0, .int .i64 0]
  rw [show (w.alloc (.cells #[.int .i64 1, .int .i64 at_, .int .i64 id, .int .i64 n, .string ⟨s.toArray⟩, .int .u64 ((a : Nat) : Int), .int .u64 ((b : Nat) : Int), .bool on, .bool v6, .int .u64 ((hi : Nat) : Int), .int .u64 ((lo : Nat) : Int), .int .i64 pk, .int .i64 ps] 28)).heap.size = w.heap.size + 1 by simp] at this
  exact this
 have hne : ¬ w.heap.size = w.heap.size + 1 := by omega
 replace hne := Lib.hid hne
 replace hb1 := Lib.hid hb1
 have c0 : w1.cell? ⟨w.heap.size, 0, none⟩ = some (.int .i64 1) := Blk.cell h1 0
 have f0 := Blk.frozen h1 0
 have c2 : w1.cell? ⟨w.heap.size, 2, none⟩ = some (.int .i64 id) := Blk.cell h1 2
 have f2 := Blk.frozen h1 2
 have c4 : w1.cell? ⟨w.heap.size, 4, none⟩ = some (.string ⟨s.toArray⟩) := Blk.cell h1 4
 have f4 := Blk.frozen h1 4
 go_enter Tryz.func42, Tryz.ntmps42
 go_upto_region 1 with fail
 rw [← hw1]
 clear hw1
 go_upto_region 31 with fail
 have p0 : Blk (w1.setCell ⟨w.heap.size, 2, none⟩ (.int .i64 0)) w.heap.size 28 #[.int .i64 1, .int .i64 at_, .int .i64 0, .int .i64 n, .string ⟨s.toArray⟩, .int .u64 ((a : Nat) : Int), .int .u64 ((b : Nat) : Int), .bool on, .bool v6, .int .u64 ((hi : Nat) : Int), .int .u64 ((lo : Nat) : Int), .int .i64 pk, .int .i64 ps] := Blk.setAt h1 2 (.int .i64 0)
 have o0 : Blk (w1.setCell ⟨w.heap.size, 2, none⟩ (.int .i64 0)) (w.heap.size + 1) 28 #[.int .i64 0, .int .i64 0, .int .i64 0, .int .i64 0, .string ⟨#[]⟩, .int .u64 0, .int .u64 0, .bool false, .bool false, .int .u64 0, .int .u64 0, .int .i64 0, .int .i64 0] := Blk.setOff h2 hne.out 2 (.int .i64 0)
 have m0 : Below w.heap.size w (w1.setCell ⟨w.heap.size, 2, none⟩ (.int .i64 0)) := Below.setCell hb1.out (Nat.le_refl _) _
 have p1 : Blk ((w1.setCell ⟨w.heap.size, 2, none⟩ (.int .i64 0)).setCell ⟨w.heap.size, 4, none⟩ (.string ⟨#[]⟩)) w.heap.size 28 #[.int .i64 1, .int .i64 at_, .int .i64 0, .int .i64 n, .string ⟨#[]⟩, .int .u64 ((a : Nat) : Int), .int .u64 ((b : Nat) : Int), .bool on, .bool v6, .int .u64 ((hi : Nat) : Int), .int .u64 ((lo : Nat) : Int), .int .i64 pk, .int .i64 ps] := Blk.setAt p0 4 (.string ⟨#[]⟩)
 have o1 : Blk ((w1.setCell ⟨w.heap.size, 2, none⟩ (.int .i64 0)).setCell ⟨w.heap.size, 4, none⟩ (.string ⟨#[]⟩)) (w.heap.size + 1) 28 #[.int .i64 0, .int .i64 0, .int .i64 0, .int .i64 0, .string ⟨#[]⟩, .int .u64 0, .int .u64 0, .bool false, .bool false, .int .u64 0, .int .u64 0, .int .i64 0, .int .i64 0] := Blk.setOff o0 hne.out 4 (.string ⟨#[]⟩)
 have m1 : Below w.heap.size w ((w1.setCell ⟨w.heap.size, 2, none⟩ (.int .i64 0)).setCell ⟨w.heap.size, 4, none⟩ (.string ⟨#[]⟩)) := Below.setCell m0 (Nat.le_refl _) _
 generalize ((w1.setCell ⟨w.heap.size, 2, none⟩ (.int .i64 0)).setCell ⟨w.heap.size, 4, none⟩ (.string ⟨#[]⟩)) = w2 at *
 go_wp2_with (first
  | (with_reducible refine wpList_load_blk rfl 28 (.tmp 1) rfl w.heap.size 0 rfl p1 [.int .i64 1, .int .i64 at_, .int .i64 0, .int .i64 n, .string ⟨#[]⟩, .int .u64 ((a : Nat) : Int), .int .u64 ((b : Nat) : Int), .bool on, .bool v6, .int .u64 ((hi : Nat) : Int), .int .u64 ((lo : Nat) : Int), .int .i64 pk, .int .i64 ps] rfl _ Tryz.underlying28 rfl (by kernel_rfl) ?_)
  | (with_reducible refine wpList_store_blk rfl rfl 28 (.tmp 2) (.tmp 46) rfl (w.heap.size + 1) 0 rfl o1 [.int .i64 1, .int .i64 at_, .int .i64 0, .int .i64 n, .string ⟨#[]⟩, .int .u64 ((a : Nat) : Int), .int .u64 ((b : Nat) : Int), .bool on, .bool v6, .int .u64 ((hi : Nat) : Int), .int .u64 ((lo : Nat) : Int), .int .i64 pk, .int .i64 ps] rfl (Nat.le_of_ble_eq_true (by kernel_rfl)) (by kernel_rfl) rfl ?_; intro wy hBy hcy hzy))
 refine bodyPost_ret (v := .agg #[.int .i64 1, .int .i64 at_, .int .i64 0, .int .i64 n, .string ⟨#[]⟩, .int .u64 ((a : Nat) : Int), .int .u64 ((b : Nat) : Int), .bool on, .bool v6, .int .u64 ((hi : Nat) : Int), .int .u64 ((lo : Nat) : Int), .int .i64 pk, .int .i64 ps]) (results_cell rfl rfl (loadVar_blk 28 hBy [.int .i64 1, .int .i64 at_, .int .i64 0, .int .i64 n, .string ⟨#[]⟩, .int .u64 ((a : Nat) : Int), .int .u64 ((b : Nat) : Int), .bool on, .bool v6, .int .u64 ((hi : Nat) : Int), .int .u64 ((lo : Nat) : Int), .int .i64 pk, .int .i64 ps] rfl _ Tryz.underlying28 rfl (by kernel_rfl))) rfl ?_
 exact ⟨rfl, m1.trans (hcy.below (fun b hb h => by omega) m1.size)⟩
set_option maxRecDepth 100000 in
set_option maxHeartbeats 8000000 in
theorem rs_bare2 (at_ id n : Int) (s : List UInt8) (a b : Nat) (on v6 : Bool) (hi lo : Nat) (pk ps : Int) (w : World) :
  Calls Tryz.prog 42 #[.agg #[.int .i64 2, .int .i64 at_, .int .i64 id, .int .i64 n, .string ⟨s.toArray⟩, .int .u64 ((a : Nat) : Int), .int .u64 ((b : Nat) : Int), .bool on, .bool v6, .int .u64 ((hi : Nat) : Int), .int .u64 ((lo : Nat) : Int), .int .i64 pk, .int .i64 ps]] w fun e w' => e = .returned (.agg #[.int .i64 2, .int .i64 at_, .int .i64 id, .int .i64 0, .string ⟨s.toArray⟩, .int .u64 ((a : Nat) : Int), .int .u64 ((b : Nat) : Int), .bool on, .bool false, .int .u64 0, .int .u64 0, .int .i64 pk, .int .i64 ps]) ∧ Below w.heap.size w w' := by
 obtain ⟨w1, hw1⟩ : ∃ w1, w1 = (w.alloc (.cells #[.int .i64 2, .int .i64 at_, .int .i64 id, .int .i64 n, .string ⟨s.toArray⟩, .int .u64 ((a : Nat) : Int), .int .u64 ((b : Nat) : Int), .bool on, .bool v6, .int .u64 ((hi : Nat) : Int), .int .u64 ((lo : Nat) : Int), .int .i64 pk, .int .i64 ps] 28)).alloc (.cells #[.int .i64 0, .int .i64 0, .int .i64 0, .int .i64 0, .string ⟨#[]⟩, .int .u64 0, .int .u64 0, .bool false, .bool false, .int .u64 0, .int .u64 0, .int .i64 0, .int .i64 0] 28) := ⟨_, rfl⟩
 have hb1 : Below w.heap.size w w1 := hw1 ▸ below_alloc (below_alloc (Below.refl _ _) _) _
 have h1 : Blk w1 w.heap.size 28 #[.int .i64 2, .int .i64 at_, .int .i64 id, .int .i64 n, .string ⟨s.toArray⟩, .int .u64 ((a : Nat) : Int), .int .u64 ((b : Nat) : Int), .bool on, .bool v6, .int .u64 ((hi : Nat) : Int), .int .u64 ((lo : Nat) : Int), .int .i64 pk, .int .i64 ps] := by rw [hw1]; exact (Blk.new w 28 #[.int .i64 2, .int .i64 at_, .int .i64 id, .int .i64 n, .string ⟨s.toArray⟩, .int .u64 ((a : Nat) : Int), .int .u64 ((b : Nat) : Int), .bool on, .bool v6, .int .u64 ((hi : Nat) : Int), .int .u64 ((lo : Nat) : Int), .int .i64 pk, .int .i64 ps]).alloc _
 have h2 : Blk w1 (w.heap.size + 1) 28 #[.int .i64 0, .int .i64 0, .int .i64 0, .int .i64 0, .string ⟨#[]⟩, .int .u64 0, .int .u64 0, .bool false, .bool false, .int .u64 0, .int .u64 0, .int .i64 0, .int .i64 0] := by
  rw [hw1]
  have := Blk.new (w.alloc (.cells #[.int .i64 2, .int .i64 at_, .int .i64 id, .int .i64 n, .string ⟨s.toArray⟩, .int .u64 ((a : Nat) : Int), .int .u64 ((b : Nat) : Int), .bool on, .bool v6, .int .u64 ((hi : Nat) : Int), .int .u64 ((lo : Nat) : Int), .int .i64 pk, .int .i64 ps] 28)) 28 #[.int .i64 0, .int .i64 0, .int .i64 0, .int .i64 0, .string ⟨#[]⟩, .int .u64 0, .int .u64 0, .bool false, .bool false, .int .u64 0, .int .u64 0, .int .i64 0, .int .i64 0]
  rw [show (w.alloc (.cells #[.int .i64 2, .int .i64 at_, .int .i64 id, .int .i64 n, .string ⟨s.toArray⟩, .int .u64 ((a : Nat) : Int), .int .u64 ((b : Nat) : Int), .bool on, .bool v6, .int .u64 ((hi : Nat) : Int), .int .u64 ((lo : Nat) : Int), .int .i64 pk, .int .i64 ps] 28)).heap.size = w.heap.size + 1 by simp] at this
  exact this
 have hne : ¬ w.heap.size = w.heap.size + 1 := by omega
 replace hne := Lib.hid hne
 replace hb1 := Lib.hid hb1
 have c0 : w1.cell? ⟨w.heap.size, 0, none⟩ = some (.int .i64 2) := Blk.cell h1 0
 have f0 := Blk.frozen h1 0
 have c3 : w1.cell? ⟨w.heap.size, 3, none⟩ = some (.int .i64 n) := Blk.cell h1 3
 have f3 := Blk.frozen h1 3
 have c8 : w1.cell? ⟨w.heap.size, 8, none⟩ = some (.bool v6) := Blk.cell h1 8
 have f8 := Blk.frozen h1 8
 have c9 : w1.cell? ⟨w.heap.size, 9, none⟩ = some (.int .u64 ((hi : Nat) : Int)) := Blk.cell h1 9
 have f9 := Blk.frozen h1 9
 have c10 : w1.cell? ⟨w.heap.size, 10, none⟩ = some (.int .u64 ((lo : Nat) : Int)) := Blk.cell h1 10
 have f10 := Blk.frozen h1 10
 go_enter Tryz.func42, Tryz.ntmps42
 go_upto_region 1 with fail
 rw [← hw1]
 clear hw1
 go_upto_region 31 with fail
 have p0 : Blk (w1.setCell ⟨w.heap.size, 3, none⟩ (.int .i64 0)) w.heap.size 28 #[.int .i64 2, .int .i64 at_, .int .i64 id, .int .i64 0, .string ⟨s.toArray⟩, .int .u64 ((a : Nat) : Int), .int .u64 ((b : Nat) : Int), .bool on, .bool v6, .int .u64 ((hi : Nat) : Int), .int .u64 ((lo : Nat) : Int), .int .i64 pk, .int .i64 ps] := Blk.setAt h1 3 (.int .i64 0)
 have o0 : Blk (w1.setCell ⟨w.heap.size, 3, none⟩ (.int .i64 0)) (w.heap.size + 1) 28 #[.int .i64 0, .int .i64 0, .int .i64 0, .int .i64 0, .string ⟨#[]⟩, .int .u64 0, .int .u64 0, .bool false, .bool false, .int .u64 0, .int .u64 0, .int .i64 0, .int .i64 0] := Blk.setOff h2 hne.out 3 (.int .i64 0)
 have m0 : Below w.heap.size w (w1.setCell ⟨w.heap.size, 3, none⟩ (.int .i64 0)) := Below.setCell hb1.out (Nat.le_refl _) _
 have p1 : Blk ((w1.setCell ⟨w.heap.size, 3, none⟩ (.int .i64 0)).setCell ⟨w.heap.size, 8, none⟩ (.bool false)) w.heap.size 28 #[.int .i64 2, .int .i64 at_, .int .i64 id, .int .i64 0, .string ⟨s.toArray⟩, .int .u64 ((a : Nat) : Int), .int .u64 ((b : Nat) : Int), .bool on, .bool false, .int .u64 ((hi : Nat) : Int), .int .u64 ((lo : Nat) : Int), .int .i64 pk, .int .i64 ps] := Blk.setAt p0 8 (.bool false)
 have o1 : Blk ((w1.setCell ⟨w.heap.size, 3, none⟩ (.int .i64 0)).setCell ⟨w.heap.size, 8, none⟩ (.bool false)) (w.heap.size + 1) 28 #[.int .i64 0, .int .i64 0, .int .i64 0, .int .i64 0, .string ⟨#[]⟩, .int .u64 0, .int .u64 0, .bool false, .bool false, .int .u64 0, .int .u64 0, .int .i64 0, .int .i64 0] := Blk.setOff o0 hne.out 8 (.bool false)
 have m1 : Below w.heap.size w ((w1.setCell ⟨w.heap.size, 3, none⟩ (.int .i64 0)).setCell ⟨w.heap.size, 8, none⟩ (.bool false)) := Below.setCell m0 (Nat.le_refl _) _
 have p2 : Blk (((w1.setCell ⟨w.heap.size, 3, none⟩ (.int .i64 0)).setCell ⟨w.heap.size, 8, none⟩ (.bool false)).setCell ⟨w.heap.size, 9, none⟩ (.int .u64 0)) w.heap.size 28 #[.int .i64 2, .int .i64 at_, .int .i64 id, .int .i64 0, .string ⟨s.toArray⟩, .int .u64 ((a : Nat) : Int), .int .u64 ((b : Nat) : Int), .bool on, .bool false, .int .u64 0, .int .u64 ((lo : Nat) : Int), .int .i64 pk, .int .i64 ps] := Blk.setAt p1 9 (.int .u64 0)
 have o2 : Blk (((w1.setCell ⟨w.heap.size, 3, none⟩ (.int .i64 0)).setCell ⟨w.heap.size, 8, none⟩ (.bool false)).setCell ⟨w.heap.size, 9, none⟩ (.int .u64 0)) (w.heap.size + 1) 28 #[.int .i64 0, .int .i64 0, .int .i64 0, .int .i64 0, .string ⟨#[]⟩, .int .u64 0, .int .u64 0, .bool false, .bool false, .int .u64 0, .int .u64 0, .int .i64 0, .int .i64 0] := Blk.setOff o1 hne.out 9 (.int .u64 0)
 have m2 : Below w.heap.size w (((w1.setCell ⟨w.heap.size, 3, none⟩ (.int .i64 0)).setCell ⟨w.heap.size, 8, none⟩ (.bool false)).setCell ⟨w.heap.size, 9, none⟩ (.int .u64 0)) := Below.setCell m1 (Nat.le_refl _) _
 have p3 : Blk ((((w1.setCell ⟨w.heap.size, 3, none⟩ (.int .i64 0)).setCell ⟨w.heap.size, 8, none⟩ (.bool false)).setCell ⟨w.heap.size, 9, none⟩ (.int .u64 0)).setCell ⟨w.heap.size, 10, none⟩ (.int .u64 0)) w.heap.size 28 #[.int .i64 2, .int .i64 at_, .int .i64 id, .int .i64 0, .string ⟨s.toArray⟩, .int .u64 ((a : Nat) : Int), .int .u64 ((b : Nat) : Int), .bool on, .bool false, .int .u64 0, .int .u64 0, .int .i64 pk, .int .i64 ps] := Blk.setAt p2 10 (.int .u64 0)
 have o3 : Blk ((((w1.setCell ⟨w.heap.size, 3, none⟩ (.int .i64 0)).setCell ⟨w.heap.size, 8, none⟩ (.bool false)).setCell ⟨w.heap.size, 9, none⟩ (.int .u64 0)).setCell ⟨w.heap.size, 10, none⟩ (.int .u64 0)) (w.heap.size + 1) 28 #[.int .i64 0, .int .i64 0, .int .i64 0, .int .i64 0, .string ⟨#[]⟩, .int .u64 0, .int .u64 0, .bool false, .bool false, .int .u64 0, .int .u64 0, .int .i64 0, .int .i64 0] := Blk.setOff o2 hne.out 10 (.int .u64 0)
 have m3 : Below w.heap.size w ((((w1.setCell ⟨w.heap.size, 3, none⟩ (.int .i64 0)).setCell ⟨w.heap.size, 8, none⟩ (.bool false)).setCell ⟨w.heap.size, 9, none⟩ (.int .u64 0)).setCell ⟨w.heap.size, 10, none⟩ (.int .u64 0)) := Below.setCell m2 (Nat.le_refl _) _
 generalize ((((w1.setCell ⟨w.heap.size, 3, none⟩ (.int .i64 0)).setCell ⟨w.heap.size, 8, none⟩ (.bool false)).setCell ⟨w.heap.size, 9, none⟩ (.int .u64 0)).setCell ⟨w.heap.size, 10, none⟩ (.int .u64 0)) = w2 at *
 go_wp2_with (first
  | (with_reducible refine wpList_load_blk rfl 28 (.tmp 1) rfl w.heap.size 0 rfl p3 [.int .i64 2, .int .i64 at_, .int .i64 id, .int .i64 0, .string ⟨s.toArray⟩, .int .u64 ((a : Nat) : Int), .int .u64 ((b : Nat) : Int), .bool on, .bool false, .int .u64 0, .int .u64 0, .int .i64 pk, .int .i64 ps] rfl _ Tryz.underlying28 rfl (by kernel_rfl) ?_)
  | (with_reducible refine wpList_store_blk rfl rfl 28 (.tmp 2) (.tmp 46) rfl (w.heap.size + 1) 0 rfl o3 [.int .i64 2, .int .i64 at_, .int .i64 id, .int .i64 0, .string ⟨s.toArray⟩, .int .u64 ((a : Nat) : Int), .int .u64 ((b : Nat) : Int), .bool on, .bool false, .int .u64 0, .int .u64 0, .int .i64 pk, .int .i64 ps] rfl (Nat.le_of_ble_eq_true (by kernel_rfl)) (by kernel_rfl) rfl ?_; intro wy hBy hcy hzy))
 refine bodyPost_ret (v := .agg #[.int .i64 2, .int .i64 at_, .int .i64 id, .int .i64 0, .string ⟨s.toArray⟩, .int .u64 ((a : Nat) : Int), .int .u64 ((b : Nat) : Int), .bool on, .bool false, .int .u64 0, .int .u64 0, .int .i64 pk, .int .i64 ps]) (results_cell rfl rfl (loadVar_blk 28 hBy [.int .i64 2, .int .i64 at_, .int .i64 id, .int .i64 0, .string ⟨s.toArray⟩, .int .u64 ((a : Nat) : Int), .int .u64 ((b : Nat) : Int), .bool on, .bool false, .int .u64 0, .int .u64 0, .int .i64 pk, .int .i64 ps] rfl _ Tryz.underlying28 rfl (by kernel_rfl))) rfl ?_
 exact ⟨rfl, m3.trans (hcy.below (fun b hb h => by omega) m3.size)⟩
set_option maxRecDepth 100000 in
set_option maxHeartbeats 8000000 in
theorem rs_bare3 (at_ id n : Int) (s : List UInt8) (a b : Nat) (on v6 : Bool) (hi lo : Nat) (pk ps : Int) (w : World) :
  Calls Tryz.prog 42 #[.agg #[.int .i64 3, .int .i64 at_, .int .i64 id, .int .i64 n, .string ⟨s.toArray⟩, .int .u64 ((a : Nat) : Int), .int .u64 ((b : Nat) : Int), .bool on, .bool v6, .int .u64 ((hi : Nat) : Int), .int .u64 ((lo : Nat) : Int), .int .i64 pk, .int .i64 ps]] w fun e w' => e = .returned (.agg #[.int .i64 3, .int .i64 at_, .int .i64 0, .int .i64 n, .string ⟨s.toArray⟩, .int .u64 ((a : Nat) : Int), .int .u64 ((b : Nat) : Int), .bool on, .bool v6, .int .u64 ((hi : Nat) : Int), .int .u64 ((lo : Nat) : Int), .int .i64 pk, .int .i64 ps]) ∧ Below w.heap.size w w' := by
 obtain ⟨w1, hw1⟩ : ∃ w1, w1 = (w.alloc (.cells #[.int .i64 3, .int .i64 at_, .int .i64 id, .int .i64 n, .string ⟨s.toArray⟩, .int .u64 ((a : Nat) : Int), .int .u64 ((b : Nat) : Int), .bool on, .bool v6, .int .u64 ((hi : Nat) : Int), .int .u64 ((lo : Nat) : Int), .int .i64 pk, .int .i64 ps] 28)).alloc (.cells #[.int .i64 0, .int .i64 0, .int .i64 0, .int .i64 0, .string ⟨#[]⟩, .int .u64 0, .int .u64 0, .bool false, .bool false, .int .u64 0, .int .u64 0, .int .i64 0, .int .i64 0] 28) := ⟨_, rfl⟩
 have hb1 : Below w.heap.size w w1 := hw1 ▸ below_alloc (below_alloc (Below.refl _ _) _) _
 have h1 : Blk w1 w.heap.size 28 #[.int .i64 3, .int .i64 at_, .int .i64 id, .int .i64 n, .string ⟨s.toArray⟩, .int .u64 ((a : Nat) : Int), .int .u64 ((b : Nat) : Int), .bool on, .bool v6, .int .u64 ((hi : Nat) : Int), .int .u64 ((lo : Nat) : Int), .int .i64 pk, .int .i64 ps] := by rw [hw1]; exact (Blk.new w 28 #[.int .i64 3, .int .i64 at_, .int .i64 id, .int .i64 n, .string ⟨s.toArray⟩, .int .u64 ((a : Nat) : Int), .int .u64 ((b : Nat) : Int), .bool on, .bool v6, .int .u64 ((hi : Nat) : Int), .int .u64 ((lo : Nat) : Int), .int .i64 pk, .int .i64 ps]).alloc _
 have h2 : Blk w1 (w.heap.size + 1) 28 #[.int .i64 0, .int .i64 0, .int .i64 0, .int .i64 0, .string ⟨#[]⟩, .int .u64 0, .int .u64 0, .bool false, .bool false, .int .u64 0, .int .u64 0, .int .i64 0, .int .i64 0] := by
  rw [hw1]
  have := Blk.new (w.alloc (.cells #[.int .i64 3, .int .i64 at_, .int .i64 id, .int .i64 n, .string ⟨s.toArray⟩, .int .u64 ((a : Nat) : Int), .int .u64 ((b : Nat) : Int), .bool on, .bool v6, .int .u64 ((hi : Nat) : Int), .int .u64 ((lo : Nat) : Int), .int .i64 pk, .int .i64 ps] 28)) 28 #[.int .i64 0, .int .i64 0, .int .i64 0, .int .i64 0, .string ⟨#[]⟩, .int .u64 0, .int .u64 0, .bool false, .bool false, .int .u64 0, .int .u64 0, .int .i64 0, .int .i64 0]
  rw [show (w.alloc (.cells #[.int .i64 3, .int .i64 at_, .int .i64 id, .int .i64 n, .string ⟨s.toArray⟩, .int .u64 ((a : Nat) : Int), .int .u64 ((b : Nat) : Int), .bool on, .bool v6, .int .u64 ((hi : Nat) : Int), .int .u64 ((lo : Nat) : Int), .int .i64 pk, .int .i64 ps] 28)).heap.size = w.heap.size + 1 by simp] at this
  exact this
 have hne : ¬ w.heap.size = w.heap.size + 1 := by omega
 replace hne := Lib.hid hne
 replace hb1 := Lib.hid hb1
 have c0 : w1.cell? ⟨w.heap.size, 0, none⟩ = some (.int .i64 3) := Blk.cell h1 0
 have f0 := Blk.frozen h1 0
 have c2 : w1.cell? ⟨w.heap.size, 2, none⟩ = some (.int .i64 id) := Blk.cell h1 2
 have f2 := Blk.frozen h1 2
 go_enter Tryz.func42, Tryz.ntmps42
 go_upto_region 1 with fail
 rw [← hw1]
 clear hw1
 go_upto_region 31 with fail
 have p0 : Blk (w1.setCell ⟨w.heap.size, 2, none⟩ (.int .i64 0)) w.heap.size 28 #[.int .i64 3, .int .i64 at_, .int .i64 0, .int .i64 n, .string ⟨s.toArray⟩, .int .u64 ((a : Nat) : Int), .int .u64 ((b : Nat) : Int), .bool on, .bool v6, .int .u64 ((hi : Nat) : Int), .int .u64 ((lo : Nat) : Int), .int .i64 pk, .int .i64 ps] := Blk.setAt h1 2 (.int .i64 0)
 have o0 : Blk (w1.setCell ⟨w.heap.size, 2, none⟩ (.int .i64 0)) (w.heap.size + 1) 28 #[.int .i64 0, .int .i64 0, .int .i64 0, .int .i64 0, .string ⟨#[]⟩, .int .u64 0, .int .u64 0, .bool false, .bool false, .int .u64 0, .int .u64 0, .int .i64 0, .int .i64 0] := Blk.setOff h2 hne.out 2 (.int .i64 0)
 have m0 : Below w.heap.size w (w1.setCell ⟨w.heap.size, 2, none⟩ (.int .i64 0)) := Below.setCell hb1.out (Nat.le_refl _) _
 generalize (w1.setCell ⟨w.heap.size, 2, none⟩ (.int .i64 0)) = w2 at *
 go_wp2_with (first
  | (with_reducible refine wpList_load_blk rfl 28 (.tmp 1) rfl w.heap.size 0 rfl p0 [.int .i64 3, .int .i64 at_, .int .i64 0, .int .i64 n, .string ⟨s.toArray⟩, .int .u64 ((a : Nat) : Int), .int .u64 ((b : Nat) : Int), .bool on, .bool v6, .int .u64 ((hi : Nat) : Int), .int .u64 ((lo : Nat) : Int), .int .i64 pk, .int .i64 ps] rfl _ Tryz.underlying28 rfl (by kernel_rfl) ?_)
  | (with_reducible refine wpList_store_blk rfl rfl 28 (.tmp 2) (.tmp 46) rfl (w.heap.size + 1) 0 rfl o0 [.int .i64 3, .int .i64 at_, .int .i64 0, .int .i64 n, .string ⟨s.toArray⟩, .int .u64 ((a : Nat) : Int), .int .u64 ((b : Nat) : Int), .bool on, .bool v6, .int .u64 ((hi : Nat) : Int), .int .u64 ((lo : Nat) : Int), .int .i64 pk, .int .i64 ps] rfl (Nat.le_of_ble_eq_true (by kernel_rfl)) (by kernel_rfl) rfl ?_; intro wy hBy hcy hzy))
 refine bodyPost_ret (v := .agg #[.int .i64 3, .int .i64 at_, .int .i64 0, .int .i64 n, .string ⟨s.toArray⟩, .int .u64 ((a : Nat) : Int), .int .u64 ((b : Nat) : Int), .bool on, .bool v6, .int .u64 ((hi : Nat) : Int), .int .u64 ((lo : Nat) : Int), .int .i64 pk, .int .i64 ps]) (results_cell rfl rfl (loadVar_blk 28 hBy [.int .i64 3, .int .i64 at_, .int .i64 0, .int .i64 n, .string ⟨s.toArray⟩, .int .u64 ((a : Nat) : Int), .int .u64 ((b : Nat) : Int), .bool on, .bool v6, .int .u64 ((hi : Nat) : Int), .int .u64 ((lo : Nat) : Int), .int .i64 pk, .int .i64 ps] rfl _ Tryz.underlying28 rfl (by kernel_rfl))) rfl ?_
 exact ⟨rfl, m0.trans (hcy.below (fun b hb h => by omega) m0.size)⟩
set_option maxRecDepth 100000 in
set_option maxHeartbeats 8000000 in
theorem rs_bare4 (at_ id n : Int) (s : List UInt8) (a b : Nat) (on v6 : Bool) (hi lo : Nat) (pk ps : Int) (w : World) :
  Calls Tryz.prog 42 #[.agg #[.int .i64 4, .int .i64 at_, .int .i64 id, .int .i64 n, .string ⟨s.toArray⟩, .int .u64 ((a : Nat) : Int), .int .u64 ((b : Nat) : Int), .bool on, .bool v6, .int .u64 ((hi : Nat) : Int), .int .u64 ((lo : Nat) : Int), .int .i64 pk, .int .i64 ps]] w fun e w' => e = .returned (.agg #[.int .i64 4, .int .i64 at_, .int .i64 0, .int .i64 n, .string ⟨s.toArray⟩, .int .u64 ((a : Nat) : Int), .int .u64 ((b : Nat) : Int), .bool false, .bool v6, .int .u64 ((hi : Nat) : Int), .int .u64 ((lo : Nat) : Int), .int .i64 pk, .int .i64 ps]) ∧ Below w.heap.size w w' := by
 obtain ⟨w1, hw1⟩ : ∃ w1, w1 = (w.alloc (.cells #[.int .i64 4, .int .i64 at_, .int .i64 id, .int .i64 n, .string ⟨s.toArray⟩, .int .u64 ((a : Nat) : Int), .int .u64 ((b : Nat) : Int), .bool on, .bool v6, .int .u64 ((hi : Nat) : Int), .int .u64 ((lo : Nat) : Int), .int .i64 pk, .int .i64 ps] 28)).alloc (.cells #[.int .i64 0, .int .i64 0, .int .i64 0, .int .i64 0, .string ⟨#[]⟩, .int .u64 0, .int .u64 0, .bool false, .bool false, .int .u64 0, .int .u64 0, .int .i64 0, .int .i64 0] 28) := ⟨_, rfl⟩
 have hb1 : Below w.heap.size w w1 := hw1 ▸ below_alloc (below_alloc (Below.refl _ _) _) _
 have h1 : Blk w1 w.heap.size 28 #[.int .i64 4, .int .i64 at_, .int .i64 id, .int .i64 n, .string ⟨s.toArray⟩, .int .u64 ((a : Nat) : Int), .int .u64 ((b : Nat) : Int), .bool on, .bool v6, .int .u64 ((hi : Nat) : Int), .int .u64 ((lo : Nat) : Int), .int .i64 pk, .int .i64 ps] := by rw [hw1]; exact (Blk.new w 28 #[.int .i64 4, .int .i64 at_, .int .i64 id, .int .i64 n, .string ⟨s.toArray⟩, .int .u64 ((a : Nat) : Int), .int .u64 ((b : Nat) : Int), .bool on, .bool v6, .int .u64 ((hi : Nat) : Int), .int .u64 ((lo : Nat) : Int), .int .i64 pk, .int .i64 ps]).alloc _
 have h2 : Blk w1 (w.heap.size + 1) 28 #[.int .i64 0, .int .i64 0, .int .i64 0, .int .i64 0, .string ⟨#[]⟩, .int .u64 0, .int .u64 0, .bool false, .bool false, .int .u64 0, .int .u64 0, .int .i64 0, .int .i64 0] := by
  rw [hw1]
  have := Blk.new (w.alloc (.cells #[.int .i64 4, .int .i64 at_, .int .i64 id, .int .i64 n, .string ⟨s.toArray⟩, .int .u64 ((a : Nat) : Int), .int .u64 ((b : Nat) : Int), .bool on, .bool v6, .int .u64 ((hi : Nat) : Int), .int .u64 ((lo : Nat) : Int), .int .i64 pk, .int .i64 ps] 28)) 28 #[.int .i64 0, .int .i64 0, .int .i64 0, .int .i64 0, .string ⟨#[]⟩, .int .u64 0, .int .u64 0, .bool false, .bool false, .int .u64 0, .int .u64 0, .int .i64 0, .int .i64 0]
  rw [show (w.alloc (.cells #[.int .i64 4, .int .i64 at_, .int .i64 id, .int .i64 n, .string ⟨s.toArray⟩, .int .u64 ((a : Nat) : Int), .int .u64 ((b : Nat) : Int), .bool on, .bool v6, .int .u64 ((hi : Nat) : Int), .int .u64 ((lo : Nat) : Int), .int .i64 pk, .int .i64 ps] 28)).heap.size = w.heap.size + 1 by simp] at this
  exact this
 have hne : ¬ w.heap.size = w.heap.size + 1 := by omega
 replace hne := Lib.hid hne
 replace hb1 := Lib.hid hb1
 have c0 : w1.cell? ⟨w.heap.size, 0, none⟩ = some (.int .i64 4) := Blk.cell h1 0
 have f0 := Blk.frozen h1 0
 have c2 : w1.cell? ⟨w.heap.size, 2, none⟩ = some (.int .i64 id) := Blk.cell h1 2
 have f2 := Blk.frozen h1 2
 have c7 : w1.cell? ⟨w.heap.size, 7, none⟩ = some (.bool on) := Blk.cell h1 7
 have f7 := Blk.frozen h1 7
 go_enter Tryz.func42, Tryz.ntmps42
 go_upto_region 1 with fail
 rw [← hw1]
 clear hw1
 go_upto_region 31 with fail
 have p0 : Blk (w1.setCell ⟨w.heap.size, 2, none⟩ (.int .i64 0)) w.heap.size 28 #[.int .i64 4, .int .i64 at_, .int .i64 0, .int .i64 n, .string ⟨s.toArray⟩, .int .u64 ((a : Nat) : Int), .int .u64 ((b : Nat) : Int), .bool on, .bool v6, .int .u64 ((hi : Nat) : Int), .int .u64 ((lo : Nat) : Int), .int .i64 pk, .int .i64 ps] := Blk.setAt h1 2 (.int .i64 0)
 have o0 : Blk (w1.setCell ⟨w.heap.size, 2, none⟩ (.int .i64 0)) (w.heap.size + 1) 28 #[.int .i64 0, .int .i64 0, .int .i64 0, .int .i64 0, .string ⟨#[]⟩, .int .u64 0, .int .u64 0, .bool false, .bool false, .int .u64 0, .int .u64 0, .int .i64 0, .int .i64 0] := Blk.setOff h2 hne.out 2 (.int .i64 0)
 have m0 : Below w.heap.size w (w1.setCell ⟨w.heap.size, 2, none⟩ (.int .i64 0)) := Below.setCell hb1.out (Nat.le_refl _) _
 have p1 : Blk ((w1.setCell ⟨w.heap.size, 2, none⟩ (.int .i64 0)).setCell ⟨w.heap.size, 7, none⟩ (.bool false)) w.heap.size 28 #[.int .i64 4, .int .i64 at_, .int .i64 0, .int .i64 n, .string ⟨s.toArray⟩, .int .u64 ((a : Nat) : Int), .int .u64 ((b : Nat) : Int), .bool false, .bool v6, .int .u64 ((hi : Nat) : Int), .int .u64 ((lo : Nat) : Int), .int .i64 pk, .int .i64 ps] := Blk.setAt p0 7 (.bool false)
 have o1 : Blk ((w1.setCell ⟨w.heap.size, 2, none⟩ (.int .i64 0)).setCell ⟨w.heap.size, 7, none⟩ (.bool false)) (w.heap.size + 1) 28 #[.int .i64 0, .int .i64 0, .int .i64 0, .int .i64 0, .string ⟨#[]⟩, .int .u64 0, .int .u64 0, .bool false, .bool false, .int .u64 0, .int .u64 0, .int .i64 0, .int .i64 0] := Blk.setOff o0 hne.out 7 (.bool false)
 have m1 : Below w.heap.size w ((w1.setCell ⟨w.heap.size, 2, none⟩ (.int .i64 0)).setCell ⟨w.heap.size, 7, none⟩ (.bool false)) := Below.setCell m0 (Nat.le_refl _) _
 generalize ((w1.setCell ⟨w.heap.size, 2, none⟩ (.int .i64 0)).setCell ⟨w.heap.size, 7, none⟩ (.bool false)) = w2 at *
 go_wp2_with (first
  | (with_reducible refine wpList_load_blk rfl 28 (.tmp 1) rfl w.heap.size 0 rfl p1 [.int .i64 4, .int .i64 at_, .int .i64 0, .int .i64 n, .string ⟨s.toArray⟩, .int .u64 ((a : Nat) : Int), .int .u64 ((b : Nat) : Int), .bool false, .bool v6, .int .u64 ((hi : Nat) : Int), .int .u64 ((lo : Nat) : Int), .int .i64 pk, .int .i64 ps] rfl _ Tryz.underlying28 rfl (by kernel_rfl) ?_)
  | (with_reducible refine wpList_store_blk rfl rfl 28 (.tmp 2) (.tmp 46) rfl (w.heap.size + 1) 0 rfl o1 [.int .i64 4, .int .i64 at_, .int .i64 0, .int .i64 n, .string ⟨s.toArray⟩, .int .u64 ((a : Nat) : Int), .int .u64 ((b : Nat) : Int), .bool false, .bool v6, .int .u64 ((hi : Nat) : Int), .int .u64 ((lo : Nat) : Int), .int .i64 pk, .int .i64 ps] rfl (Nat.le_of_ble_eq_true (by kernel_rfl)) (by kernel_rfl) rfl ?_; intro wy hBy hcy hzy))
 refine bodyPost_ret (v := .agg #[.int .i64 4, .int .i64 at_, .int .i64 0, .int .i64 n, .string ⟨s.toArray⟩, .int .u64 ((a : Nat) : Int), .int .u64 ((b : Nat) : Int), .bool false, .bool v6, .int .u64 ((hi : Nat) : Int), .int .u64 ((lo : Nat) : Int), .int .i64 pk, .int .i64 ps]) (results_cell rfl rfl (loadVar_blk 28 hBy [.int .i64 4, .int .i64 at_, .int .i64 0, .int .i64 n, .string ⟨s.toArray⟩, .int .u64 ((a : Nat) : Int), .int .u64 ((b : Nat) : Int), .bool false, .bool v6, .int .u64 ((hi : Nat) : Int), .int .u64 ((lo : Nat) : Int), .int .i64 pk, .int .i64 ps] rfl _ Tryz.underlying28 rfl (by kernel_rfl))) rfl ?_
 exact ⟨rfl, m1.trans (hcy.below (fun b hb h => by omega) m1.size)⟩
set_option maxRecDepth 100000 in
set_option maxHeartbeats 8000000 in
theorem rs_bare5 (at_ id n : Int) (s : List UInt8) (a b : Nat) (on v6 : Bool) (hi lo : Nat) (pk ps : Int) (w : World) :
  Calls Tryz.prog 42 #[.agg #[.int .i64 5, .int .i64 at_, .int .i64 id, .int .i64 n, .string ⟨s.toArray⟩, .int .u64 ((a : Nat) : Int), .int .u64 ((b : Nat) : Int), .bool on, .bool v6, .int .u64 ((hi : Nat) : Int), .int .u64 ((lo : Nat) : Int), .int .i64 pk, .int .i64 ps]] w fun e w' => e = .returned (.agg #[.int .i64 5, .int .i64 at_, .int .i64 0, .int .i64 0, .string ⟨s.toArray⟩, .int .u64 ((a : Nat) : Int), .int .u64 ((b : Nat) : Int), .bool on, .bool v6, .int .u64 ((hi : Nat) : Int), .int .u64 ((lo : Nat) : Int), .int .i64 pk, .int .i64 ps]) ∧ Below w.heap.size w w' := by
 obtain ⟨w1, hw1⟩ : ∃ w1, w1 = (w.alloc (.cells #[.int .i64 5, .int .i64 at_, .int .i64 id, .int .i64 n, .string ⟨s.toArray⟩, .int .u64 ((a : Nat) : Int), .int .u64 ((b : Nat) : Int), .bool on, .bool v6, .int .u64 ((hi : Nat) : Int), .int .u64 ((lo : Nat) : Int), .int .i64 pk, .int .i64 ps] 28)).alloc (.cells #[.int .i64 0, .int .i64 0, .int .i64 0, .int .i64 0, .string ⟨#[]⟩, .int .u64 0, .int .u64 0, .bool false, .bool false, .int .u64 0, .int .u64 0, .int .i64 0, .int .i64 0] 28) := ⟨_, rfl⟩
 have hb1 : Below w.heap.size w w1 := hw1 ▸ below_alloc (below_alloc (Below.refl _ _) _) _
 have h1 : Blk w1 w.heap.size 28 #[.int .i64 5, .int .i64 at_, .int .i64 id, .int .i64 n, .string ⟨s.toArray⟩, .int .u64 ((a : Nat) : Int), .int .u64 ((b : Nat) : Int), .bool on, .bool v6, .int .u64 ((hi : Nat) : Int), .int .u64 ((lo : Nat) : Int), .int .i64 pk, .int .i64 ps] := by rw [hw1]; exact (Blk.new w 28 #[.int .i64 5, .int .i64 at_, .int .i64 id, .int .i64 n, .string ⟨s.toArray⟩, .int .u64 ((a : Nat) : Int), .int .u64 ((b : Nat) : Int), .bool on, .bool v6, .int .u64 ((hi : Nat) : Int), .int .u64 ((lo : Nat) : Int), .int .i64 pk, .int .i64 ps]).alloc _
 have h2 : Blk w1 (w.heap.size + 1) 28 #[.int .i64 0, .int .i64 0, .int .i64 0, .int .i64 0, .string ⟨#[]⟩, .int .u64 0, .int .u64 0, .bool false, .bool false, .int .u64 0, .int .u64 0, .int .i64 0, .int .i64 0] := by
  rw [hw1]
  have := Blk.new (w.alloc (.cells #[.int .i64 5, .int .i64 at_, .int .i64 id, .int .i64 n, .string ⟨s.toArray⟩, .int .u64 ((a : Nat) : Int), .int .u64 ((b : Nat) : Int), .bool on, .bool v6, .int .u64 ((hi : Nat) : Int), .int .u64 ((lo : Nat) : Int), .int .i64 pk, .int .i64 ps] 28)) 28 #[.int .i64 0, .int .i64 0, .int .i64 0, .int .i64 0, .string ⟨#[]⟩, .int .u64 0, .int .u64 0, .bool false, .bool false, .int .u64 0, .int .u64 0, .int .i64 0, .int .i64 0]
  rw [show (w.alloc (.cells #[.int .i64 5, .int .i64 at_, .int .i64 id, .int .i64 n, .string ⟨s.toArray⟩, .int .u64 ((a : Nat) : Int), .int .u64 ((b : Nat) : Int), .bool on, .bool v6, .int .u64 ((hi : Nat) : Int), .int .u64 ((lo : Nat) : Int), .int .i64 pk, .int .i64 ps] 28)).heap.size = w.heap.size + 1 by simp] at this
  exact this
 have hne : ¬ w.heap.size = w.heap.size + 1 := by omega
 replace hne := Lib.hid hne
 replace hb1 := Lib.hid hb1
 have c0 : w1.cell? ⟨w.heap.size, 0, none⟩ = some (.int .i64 5) := Blk.cell h1 0
 have f0 := Blk.frozen h1 0
 have c2 : w1.cell? ⟨w.heap.size, 2, none⟩ = some (.int .i64 id) := Blk.cell h1 2
 have f2 := Blk.frozen h1 2
 have c3 : w1.cell? ⟨w.heap.size, 3, none⟩ = some (.int .i64 n) := Blk.cell h1 3
 have f3 := Blk.frozen h1 3
 go_enter Tryz.func42, Tryz.ntmps42
 go_upto_region 1 with fail
 rw [← hw1]
 clear hw1
 go_upto_region 31 with fail
 have p0 : Blk (w1.setCell ⟨w.heap.size, 2, none⟩ (.int .i64 0)) w.heap.size 28 #[.int .i64 5, .int .i64 at_, .int .i64 0, .int .i64 n, .string ⟨s.toArray⟩, .int .u64 ((a : Nat) : Int), .int .u64 ((b : Nat) : Int), .bool on, .bool v6, .int .u64 ((hi : Nat) : Int), .int .u64 ((lo : Nat) : Int), .int .i64 pk, .int .i64 ps] := Blk.setAt h1 2 (.int .i64 0)
 have o0 : Blk (w1.setCell ⟨w.heap.size, 2, none⟩ (.int .i64 0)) (w.heap.size + 1) 28 #[.int .i64 0, .int .i64 0, .int .i64 0, .int .i64 0, .string ⟨#[]⟩, .int .u64 0, .int .u64 0, .bool false, .bool false, .int .u64 0, .int .u64 0, .int .i64 0, .int .i64 0] := Blk.setOff h2 hne.out 2 (.int .i64 0)
 have m0 : Below w.heap.size w (w1.setCell ⟨w.heap.size, 2, none⟩ (.int .i64 0)) := Below.setCell hb1.out (Nat.le_refl _) _
 have p1 : Blk ((w1.setCell ⟨w.heap.size, 2, none⟩ (.int .i64 0)).setCell ⟨w.heap.size, 3, none⟩ (.int .i64 0)) w.heap.size 28 #[.int .i64 5, .int .i64 at_, .int .i64 0, .int .i64 0, .string ⟨s.toArray⟩, .int .u64 ((a : Nat) : Int), .int .u64 ((b : Nat) : Int), .bool on, .bool v6, .int .u64 ((hi : Nat) : Int), .int .u64 ((lo : Nat) : Int), .int .i64 pk, .int .i64 ps] := Blk.setAt p0 3 (.int .i64 0)
 have o1 : Blk ((w1.setCell ⟨w.heap.size, 2, none⟩ (.int .i64 0)).setCell ⟨w.heap.size, 3, none⟩ (.int .i64 0)) (w.heap.size + 1) 28 #[.int .i64 0, .int .i64 0, .int .i64 0, .int .i64 0, .string ⟨#[]⟩, .int .u64 0, .int .u64 0, .bool false, .bool false, .int .u64 0, .int .u64 0, .int .i64 0, .int .i64 0] := Blk.setOff o0 hne.out 3 (.int .i64 0)
 have m1 : Below w.heap.size w ((w1.setCell ⟨w.heap.size, 2, none⟩ (.int .i64 0)).setCell ⟨w.heap.size, 3, none⟩ (.int .i64 0)) := Below.setCell m0 (Nat.le_refl _) _
 generalize ((w1.setCell ⟨w.heap.size, 2, none⟩ (.int .i64 0)).setCell ⟨w.heap.size, 3, none⟩ (.int .i64 0)) = w2 at *
 go_wp2_with (first
  | (with_reducible refine wpList_load_blk rfl 28 (.tmp 1) rfl w.heap.size 0 rfl p1 [.int .i64 5, .int .i64 at_, .int .i64 0, .int .i64 0, .string ⟨s.toArray⟩, .int .u64 ((a : Nat) : Int), .int .u64 ((b : Nat) : Int), .bool on, .bool v6, .int .u64 ((hi : Nat) : Int), .int .u64 ((lo : Nat) : Int), .int .i64 pk, .int .i64 ps] rfl _ Tryz.underlying28 rfl (by kernel_rfl) ?_)
  | (with_reducible refine wpList_store_blk rfl rfl 28 (.tmp 2) (.tmp 46) rfl (w.heap.size + 1) 0 rfl o1 [.int .i64 5, .int .i64 at_, .int .i64 0, .int .i64 0, .string ⟨s.toArray⟩, .int .u64 ((a : Nat) : Int), .int .u64 ((b : Nat) : Int), .bool on, .bool v6, .int .u64 ((hi : Nat) : Int), .int .u64 ((lo : Nat) : Int), .int .i64 pk, .int .i64 ps] rfl (Nat.le_of_ble_eq_true (by kernel_rfl)) (by kernel_rfl) rfl ?_; intro wy hBy hcy hzy))
 refine bodyPost_ret (v := .agg #[.int .i64 5, .int .i64 at_, .int .i64 0, .int .i64 0, .string ⟨s.toArray⟩, .int .u64 ((a : Nat) : Int), .int .u64 ((b : Nat) : Int), .bool on, .bool v6, .int .u64 ((hi : Nat) : Int), .int .u64 ((lo : Nat) : Int), .int .i64 pk, .int .i64 ps]) (results_cell rfl rfl (loadVar_blk 28 hBy [.int .i64 5, .int .i64 at_, .int .i64 0, .int .i64 0, .string ⟨s.toArray⟩, .int .u64 ((a : Nat) : Int), .int .u64 ((b : Nat) : Int), .bool on, .bool v6, .int .u64 ((hi : Nat) : Int), .int .u64 ((lo : Nat) : Int), .int .i64 pk, .int .i64 ps] rfl _ Tryz.underlying28 rfl (by kernel_rfl))) rfl ?_
 exact ⟨rfl, m1.trans (hcy.below (fun b hb h => by omega) m1.size)⟩
set_option maxRecDepth 100000 in
set_option maxHeartbeats 8000000 in
theorem rs_bare6 (at_ id n : Int) (s : List UInt8) (a b : Nat) (on v6 : Bool) (hi lo : Nat) (pk ps : Int) (w : World) :
  Calls Tryz.prog 42 #[.agg #[.int .i64 6, .int .i64 at_, .int .i64 id, .int .i64 n, .string ⟨s.toArray⟩, .int .u64 ((a : Nat) : Int), .int .u64 ((b : Nat) : Int), .bool on, .bool v6, .int .u64 ((hi : Nat) : Int), .int .u64 ((lo : Nat) : Int), .int .i64 pk, .int .i64 ps]] w fun e w' => e = .returned (.agg #[.int .i64 6, .int .i64 at_, .int .i64 0, .int .i64 n, .string ⟨s.toArray⟩, .int .u64 ((a : Nat) : Int), .int .u64 ((b : Nat) : Int), .bool false, .bool v6, .int .u64 ((hi : Nat) : Int), .int .u64 ((lo : Nat) : Int), .int .i64 pk, .int .i64 ps]) ∧ Below w.heap.size w w' := by
 obtain ⟨w1, hw1⟩ : ∃ w1, w1 = (w.alloc (.cells #[.int .i64 6, .int .i64 at_, .int .i64 id, .int .i64 n, .string ⟨s.toArray⟩, .int .u64 ((a : Nat) : Int), .int .u64 ((b : Nat) : Int), .bool on, .bool v6, .int .u64 ((hi : Nat) : Int), .int .u64 ((lo : Nat) : Int), .int .i64 pk, .int .i64 ps] 28)).alloc (.cells #[.int .i64 0, .int .i64 0, .int .i64 0, .int .i64 0, .string ⟨#[]⟩, .int .u64 0, .int .u64 0, .bool false, .bool false, .int .u64 0, .int .u64 0, .int .i64 0, .int .i64 0] 28) := ⟨_, rfl⟩
 have hb1 : Below w.heap.size w w1 := hw1 ▸ below_alloc (below_alloc (Below.refl _ _) _) _
 have h1 : Blk w1 w.heap.size 28 #[.int .i64 6, .int .i64 at_, .int .i64 id, .int .i64 n, .string ⟨s.toArray⟩, .int .u64 ((a : Nat) : Int), .int .u64 ((b : Nat) : Int), .bool on, .bool v6, .int .u64 ((hi : Nat) : Int), .int .u64 ((lo : Nat) : Int), .int .i64 pk, .int .i64 ps] := by rw [hw1]; exact (Blk.new w 28 #[.int .i64 6, .int .i64 at_, .int .i64 id, .int .i64 n, .string ⟨s.toArray⟩, .int .u64 ((a : Nat) : Int), .int .u64 ((b : Nat) : Int), .bool on, .bool v6, .int .u64 ((hi : Nat) : Int), .int .u64 ((lo : Nat) : Int), .int .i64 pk, .int .i64 ps]).alloc _
 have h2 : Blk w1 (w.heap.size + 1) 28 #[.int .i64 0, .int .i64 0, .int .i64 0, .int .i64 0, .string ⟨#[]⟩, .int .u64 0, .int .u64 0, .bool false, .bool false, .int .u64 0, .int .u64 0, .int .i64 0, .int .i64 0] := by
  rw [hw1]
  have := Blk.new (w.alloc (.cells #[.int .i64 6, .int .i64 at_, .int .i64 id, .int .i64 n, .string ⟨s.toArray⟩, .int .u64 ((a : Nat) : Int), .int .u64 ((b : Nat) : Int), .bool on, .bool v6, .int .u64 ((hi : Nat) : Int), .int .u64 ((lo : Nat) : Int), .int .i64 pk, .int .i64 ps] 28)) 28 #[.int .i64 0, .int .i64 0, .int .i64 0, .int .i64 0, .string ⟨#[]⟩, .int .u64 0, .int .u64 0, .bool false, .bool false, .int .u64 0, .int .u64 0, .int .i64 0, .int .i64 0]
  rw [show (w.alloc (.cells #[.int .i64 6, .int .i64 at_, .int .i64 id, .int .i64 n, .string ⟨s.toArray⟩, .int .u64 ((a : Nat) : Int), .int .u64 ((b : Nat) : Int), .bool on, .bool v6, .int .u64 ((hi : Nat) : Int), .int .u64 ((lo : Nat) : Int), .int .i64 pk, .int .i64 ps] 28)).heap.size = w.heap.size + 1 by simp] at this
  exact this
 have hne : ¬ w.heap.size = w.heap.size + 1 := by omega
 replace hne := Lib.hid hne
 replace hb1 := Lib.hid hb1
 have c0 : w1.cell? ⟨w.heap.size, 0, none⟩ = some (.int .i64 6) := Blk.cell h1 0
 have f0 := Blk.frozen h1 0
 have c2 : w1.cell? ⟨w.heap.size, 2, none⟩ = some (.int .i64 id) := Blk.cell h1 2
 have f2 := Blk.frozen h1 2
 have c7 : w1.cell? ⟨w.heap.size, 7, none⟩ = some (.bool on) := Blk.cell h1 7
 have f7 := Blk.frozen h1 7
 go_enter Tryz.func42, Tryz.ntmps42
 go_upto_region 1 with fail
 rw [← hw1]
 clear hw1
 go_upto_region 31 with fail
 have p0 : Blk (w1.setCell ⟨w.heap.size, 2, none⟩ (.int .i64 0)) w.heap.size 28 #[.int .i64 6, .int .i64 at_, .int .i64 0, .int .i64 n, .string ⟨s.toArray⟩, .int .u64 ((a : Nat) : Int), .int .u64 ((b : Nat) : Int), .bool on, .bool v6, .int .u64 ((hi : Nat) : Int), .int .u64 ((lo : Nat) : Int), .int .i64 pk, .int .i64 ps] := Blk.setAt h1 2 (.int .i64 0)
 have o0 : Blk (w1.setCell ⟨w.heap.size, 2, none⟩ (.int .i64 0)) (w.heap.size + 1) 28 #[.int .i64 0, .int .i64 0, .int .i64 0, .int .i64 0, .string ⟨#[]⟩, .int .u64 0, .int .u64 0, .bool false, .bool false, .int .u64 0, .int .u64 0, .int .i64 0, .int .i64 0] := Blk.setOff h2 hne.out 2 (.int .i64 0)
 have m0 : Below w.heap.size w (w1.setCell ⟨w.heap.size, 2, none⟩ (.int .i64 0)) := Below.setCell hb1.out (Nat.le_refl _) _
 have p1 : Blk ((w1.setCell ⟨w.heap.size, 2, none⟩ (.int .i64 0)).setCell ⟨w.heap.size, 7, none⟩ (.bool false)) w.heap.size 28 #[.int .i64 6, .int .i64 at_, .int .i64 0, .int .i64 n, .string ⟨s.toArray⟩, .int .u64 ((a : Nat) : Int), .int .u64 ((b : Nat) : Int), .bool false, .bool v6, .int .u64 ((hi : Nat) : Int), .int .u64 ((lo : Nat) : Int), .int .i64 pk, .int .i64 ps] := Blk.setAt p0 7 (.bool false)
 have o1 : Blk ((w1.setCell ⟨w.heap.size, 2, none⟩ (.int .i64 0)).setCell ⟨w.heap.size, 7, none⟩ (.bool false)) (w.heap.size + 1) 28 #[.int .i64 0, .int .i64 0, .int .i64 0, .int .i64 0, .string ⟨#[]⟩, .int .u64 0, .int .u64 0, .bool false, .bool false, .int .u64 0, .int .u64 0, .int .i64 0, .int .i64 0] := Blk.setOff o0 hne.out 7 (.bool false)
 have m1 : Below w.heap.size w ((w1.setCell ⟨w.heap.size, 2, none⟩ (.int .i64 0)).setCell ⟨w.heap.size, 7, none⟩ (.bool false)) := Below.setCell m0 (Nat.le_refl _) _
 generalize ((w1.setCell ⟨w.heap.size, 2, none⟩ (.int .i64 0)).setCell ⟨w.heap.size, 7, none⟩ (.bool false)) = w2 at *
 go_wp2_with (first
  | (with_reducible refine wpList_load_blk rfl 28 (.tmp 1) rfl w.heap.size 0 rfl p1 [.int .i64 6, .int .i64 at_, .int .i64 0, .int .i64 n, .string ⟨s.toArray⟩, .int .u64 ((a : Nat) : Int), .int .u64 ((b : Nat) : Int), .bool false, .bool v6, .int .u64 ((hi : Nat) : Int), .int .u64 ((lo : Nat) : Int), .int .i64 pk, .int .i64 ps] rfl _ Tryz.underlying28 rfl (by kernel_rfl) ?_)
  | (with_reducible refine wpList_store_blk rfl rfl 28 (.tmp 2) (.tmp 46) rfl (w.heap.size + 1) 0 rfl o1 [.int .i64 6, .int .i64 at_, .int .i64 0, .int .i64 n, .string ⟨s.toArray⟩, .int .u64 ((a : Nat) : Int), .int .u64 ((b : Nat) : Int), .bool false, .bool v6, .int .u64 ((hi : Nat) : Int), .int .u64 ((lo : Nat) : Int), .int .i64 pk, .int .i64 ps] rfl (Nat.le_of_ble_eq_true (by kernel_rfl)) (by kernel_rfl) rfl ?_; intro wy hBy hcy hzy))
 refine bodyPost_ret (v := .agg #[.int .i64 6, .int .i64 at_, .int .i64 0, .int .i64 n, .string ⟨s.toArray⟩, .int .u64 ((a : Nat) : Int), .int .u64 ((b : Nat) : Int), .bool false, .bool v6, .int .u64 ((hi : Nat) : Int), .int .u64 ((lo : Nat) : Int), .int .i64 pk, .int .i64 ps]) (results_cell rfl rfl (loadVar_blk 28 hBy [.int .i64 6, .int .i64 at_, .int .i64 0, .int .i64 n, .string ⟨s.toArray⟩, .int .u64 ((a : Nat) : Int), .int .u64 ((b : Nat) : Int), .bool false, .bool v6, .int .u64 ((hi : Nat) : Int), .int .u64 ((lo : Nat) : Int), .int .i64 pk, .int .i64 ps] rfl _ Tryz.underlying28 rfl (by kernel_rfl))) rfl ?_
 exact ⟨rfl, m1.trans (hcy.below (fun b hb h => by omega) m1.size)⟩
set_option maxRecDepth 100000 in
set_option maxHeartbeats 8000000 in
theorem rs_bare7 (at_ id n : Int) (s : List UInt8) (a b : Nat) (on v6 : Bool) (hi lo : Nat) (pk ps : Int) (w : World) :
  Calls Tryz.prog 42 #[.agg #[.int .i64 7, .int .i64 at_, .int .i64 id, .int .i64 n, .string ⟨s.toArray⟩, .int .u64 ((a : Nat) : Int), .int .u64 ((b : Nat) : Int), .bool on, .bool v6, .int .u64 ((hi : Nat) : Int), .int .u64 ((lo : Nat) : Int), .int .i64 pk, .int .i64 ps]] w fun e w' => e = .returned (.agg #[.int .i64 7, .int .i64 at_, .int .i64 id, .int .i64 n, .string ⟨s.toArray⟩, .int .u64 ((a : Nat) : Int), .int .u64 ((b : Nat) : Int), .bool on, .bool v6, .int .u64 ((hi : Nat) : Int), .int .u64 ((lo : Nat) : Int), .int .i64 0, .int .i64 0]) ∧ Below w.heap.size w w' := by
 obtain ⟨w1, hw1⟩ : ∃ w1, w1 = (w.alloc (.cells #[.int .i64 7, .int .i64 at_, .int .i64 id, .int .i64 n, .string ⟨s.toArray⟩, .int .u64 ((a : Nat) : Int), .int .u64 ((b : Nat) : Int), .bool on, .bool v6, .int .u64 ((hi : Nat) : Int), .int .u64 ((lo : Nat) : Int), .int .i64 pk, .int .i64 ps] 28)).alloc (.cells #[.int .i64 0, .int .i64 0, .int .i64 0, .int .i64 0, .string ⟨#[]⟩, .int .u64 0, .int .u64 0, .bool false, .bool false, .int .u64 0, .int .u64 0, .int .i64 0, .int .i64 0] 28) := ⟨_, rfl⟩
 have hb1 : Below w.heap.size w w1 := hw1 ▸ below_alloc (below_alloc (Below.refl _ _) _) _
 have h1 : Blk w1 w.heap.size 28 #[.int .i64 7, .int .i64 at_, .int .i64 id, .int .i64 n, .string ⟨s.toArray⟩, .int .u64 ((a : Nat) : Int), .int .u64 ((b : Nat) : Int), .bool on, .bool v6, .int .u64 ((hi : Nat) : Int), .int .u64 ((lo : Nat) : Int), .int .i64 pk, .int .i64 ps] := by rw [hw1]; exact (Blk.new w 28 #[.int .i64 7, .int .i64 at_, .int .i64 id, .int .i64 n, .string ⟨s.toArray⟩, .int .u64 ((a : Nat) : Int), .int .u64 ((b : Nat) : Int), .bool on, .bool v6, .int .u64 ((hi : Nat) : Int), .int .u64 ((lo : Nat) : Int), .int .i64 pk, .int .i64 ps]).alloc _
 have h2 : Blk w1 (w.heap.size + 1) 28 #[.int .i64 0, .int .i64 0, .int .i64 0, .int .i64 0, .string ⟨#[]⟩, .int .u64 0, .int .u64 0, .bool false, .bool false, .int .u64 0, .int .u64 0, .int .i64 0, .int .i64 0] := by
  rw [hw1]
  have := Blk.new (w.alloc (.cells #[.int .i64 7, .int .i64 at_, .int .i64 id, .int .i64 n, .string ⟨s.toArray⟩, .int .u64 ((a : Nat) : Int), .int .u64 ((b : Nat) : Int), .bool on, .bool v6, .int .u64 ((hi : Nat) : Int), .int .u64 ((lo : Nat) : Int), .int .i64 pk, .int .i64 ps] 28)) 28 #[.int .i64 0, .int .i64 0, .int .i64 0, .int .i64 0, .string ⟨#[]⟩, .int .u64 0, .int .u64 0, .bool false, .bool false, .int .u64 0, .int .u64 0, .int .i64 0, .int .i64 0]
  rw [show (w.alloc (.cells #[.int .i64 7, .int .i64 at_, .int .i64 id, .int .i64 n, .string ⟨s.toArray⟩, .int .u64 ((a : Nat) : Int), .int .u64 ((b : Nat) : Int), .bool on, .bool v6, .int .u64 ((hi : Nat) : Int), .int .u64 ((lo : Nat) : Int), .int .i64 pk, .int .i64 ps] 28)).heap.size = w.heap.size + 1 by simp] at this
  exact this
 have hne : ¬ w.heap.size = w.heap.size + 1 := by omega
 replace hne := Lib.hid hne
 replace hb1 := Lib.hid hb1
 have c0 : w1.cell? ⟨w.heap.size, 0, none⟩ = some (.int .i64 7) := Blk.cell h1 0
 have f0 := Blk.frozen h1 0
 have c11 : w1.cell? ⟨w.heap.size, 11, none⟩ = some (.int .i64 pk) := Blk.cell h1 11
 have f11 := Blk.frozen h1 11
 have c12 : w1.cell? ⟨w.heap.size, 12, none⟩ = some (.int .i64 ps) := Blk.cell h1 12
 have f12 := Blk.frozen h1 12
 go_enter Tryz.func42, Tryz.ntmps42
 go_upto_region 1 with fail
 rw [← hw1]
 clear hw1
 go_upto_region 31 with fail
 have p0 : Blk (w1.setCell ⟨w.heap.size, 11, none⟩ (.int .i64 0)) w.heap.size 28 #[.int .i64 7, .int .i64 at_, .int .i64 id, .int .i64 n, .string ⟨s.toArray⟩, .int .u64 ((a : Nat) : Int), .int .u64 ((b : Nat) : Int), .bool on, .bool v6, .int .u64 ((hi : Nat) : Int), .int .u64 ((lo : Nat) : Int), .int .i64 0, .int .i64 ps] := Blk.setAt h1 11 (.int .i64 0)
 have o0 : Blk (w1.setCell ⟨w.heap.size, 11, none⟩ (.int .i64 0)) (w.heap.size + 1) 28 #[.int .i64 0, .int .i64 0, .int .i64 0, .int .i64 0, .string ⟨#[]⟩, .int .u64 0, .int .u64 0, .bool false, .bool false, .int .u64 0, .int .u64 0, .int .i64 0, .int .i64 0] := Blk.setOff h2 hne.out 11 (.int .i64 0)
 have m0 : Below w.heap.size w (w1.setCell ⟨w.heap.size, 11, none⟩ (.int .i64 0)) := Below.setCell hb1.out (Nat.le_refl _) _
 have p1 : Blk ((w1.setCell ⟨w.heap.size, 11, none⟩ (.int .i64 0)).setCell ⟨w.heap.size, 12, none⟩ (.int .i64 0)) w.heap.size 28 #[.int .i64 7, .int .i64 at_, .int .i64 id, .int .i64 n, .string ⟨s.toArray⟩, .int .u64 ((a : Nat) : Int), .int .u64 ((b : Nat) : Int), .bool on, .bool v6, .int .u64 ((hi : Nat) : Int), .int .u64 ((lo : Nat) : Int), .int .i64 0, .int .i64 0] := Blk.setAt p0 12 (.int .i64 0)
 have o1 : Blk ((w1.setCell ⟨w.heap.size, 11, none⟩ (.int .i64 0)).setCell ⟨w.heap.size, 12, none⟩ (.int .i64 0)) (w.heap.size + 1) 28 #[.int .i64 0, .int .i64 0, .int .i64 0, .int .i64 0, .string ⟨#[]⟩, .int .u64 0, .int .u64 0, .bool false, .bool false, .int .u64 0, .int .u64 0, .int .i64 0, .int .i64 0] := Blk.setOff o0 hne.out 12 (.int .i64 0)
 have m1 : Below w.heap.size w ((w1.setCell ⟨w.heap.size, 11, none⟩ (.int .i64 0)).setCell ⟨w.heap.size, 12, none⟩ (.int .i64 0)) := Below.setCell m0 (Nat.le_refl _) _
 generalize ((w1.setCell ⟨w.heap.size, 11, none⟩ (.int .i64 0)).setCell ⟨w.heap.size, 12, none⟩ (.int .i64 0)) = w2 at *
 go_wp2_with (first
  | (with_reducible refine wpList_load_blk rfl 28 (.tmp 1) rfl w.heap.size 0 rfl p1 [.int .i64 7, .int .i64 at_, .int .i64 id, .int .i64 n, .string ⟨s.toArray⟩, .int .u64 ((a : Nat) : Int), .int .u64 ((b : Nat) : Int), .bool on, .bool v6, .int .u64 ((hi : Nat) : Int), .int .u64 ((lo : Nat) : Int), .int .i64 0, .int .i64 0] rfl _ Tryz.underlying28 rfl (by kernel_rfl) ?_)
  | (with_reducible refine wpList_store_blk rfl rfl 28 (.tmp 2) (.tmp 46) rfl (w.heap.size + 1) 0 rfl o1 [.int .i64 7, .int .i64 at_, .int .i64 id, .int .i64 n, .string ⟨s.toArray⟩, .int .u64 ((a : Nat) : Int), .int .u64 ((b : Nat) : Int), .bool on, .bool v6, .int .u64 ((hi : Nat) : Int), .int .u64 ((lo : Nat) : Int), .int .i64 0, .int .i64 0] rfl (Nat.le_of_ble_eq_true (by kernel_rfl)) (by kernel_rfl) rfl ?_; intro wy hBy hcy hzy))
 refine bodyPost_ret (v := .agg #[.int .i64 7, .int .i64 at_, .int .i64 id, .int .i64 n, .string ⟨s.toArray⟩, .int .u64 ((a : Nat) : Int), .int .u64 ((b : Nat) : Int), .bool on, .bool v6, .int .u64 ((hi : Nat) : Int), .int .u64 ((lo : Nat) : Int), .int .i64 0, .int .i64 0]) (results_cell rfl rfl (loadVar_blk 28 hBy [.int .i64 7, .int .i64 at_, .int .i64 id, .int .i64 n, .string ⟨s.toArray⟩, .int .u64 ((a : Nat) : Int), .int .u64 ((b : Nat) : Int), .bool on, .bool v6, .int .u64 ((hi : Nat) : Int), .int .u64 ((lo : Nat) : Int), .int .i64 0, .int .i64 0] rfl _ Tryz.underlying28 rfl (by kernel_rfl))) rfl ?_
 exact ⟨rfl, m1.trans (hcy.below (fun b hb h => by omega) m1.size)⟩
set_option maxRecDepth 100000 in
set_option maxHeartbeats 8000000 in
theorem rs_bare8 (at_ id n : Int) (s : List UInt8) (a b : Nat) (on v6 : Bool) (hi lo : Nat) (pk ps : Int) (w : World) :
  Calls Tryz.prog 42 #[.agg #[.int .i64 8, .int .i64 at_, .int .i64 id, .int .i64 n, .string ⟨s.toArray⟩, .int .u64 ((a : Nat) : Int), .int .u64 ((b : Nat) : Int), .bool on, .bool v6, .int .u64 ((hi : Nat) : Int), .int .u64 ((lo : Nat) : Int), .int .i64 pk, .int .i64 ps]] w fun e w' => e = .returned (.agg #[.int .i64 8, .int .i64 at_, .int .i64 id, .int .i64 n, .string ⟨s.toArray⟩, .int .u64 ((a : Nat) : Int), .int .u64 ((b : Nat) : Int), .bool false, .bool v6, .int .u64 ((hi : Nat) : Int), .int .u64 ((lo : Nat) : Int), .int .i64 pk, .int .i64 ps]) ∧ Below w.heap.size w w' := by
 obtain ⟨w1, hw1⟩ : ∃ w1, w1 = (w.alloc (.cells #[.int .i64 8, .int .i64 at_, .int .i64 id, .int .i64 n, .string ⟨s.toArray⟩, .int .u64 ((a : Nat) : Int), .int .u64 ((b : Nat) : Int), .bool on, .bool v6, .int .u64 ((hi : Nat) : Int), .int .u64 ((lo : Nat) : Int), .int .i64 pk, .int .i64 ps] 28)).alloc (.cells #[.int .i64 0, .int .i64 0, .int .i64 0, .int .i64 0, .string ⟨#[]⟩, .int .u64 0, .int .u64 0, .bool false, .bool false, .int .u64 0, .int .u64 0, .int .i64 0, .int .i64 0] 28) := ⟨_, rfl⟩
 have hb1 : Below w.heap.size w w1 := hw1 ▸ below_alloc (below_alloc (Below.refl _ _) _) _
 have h1 : Blk w1 w.heap.size 28 #[.int .i64 8, .int .i64 at_, .int .i64 id, .int .i64 n, .string ⟨s.toArray⟩, .int .u64 ((a : Nat) : Int), .int .u64 ((b : Nat) : Int), .bool on, .bool v6, .int .u64 ((hi : Nat) : Int), .int .u64 ((lo : Nat) : Int), .int .i64 pk, .int .i64 ps] := by rw [hw1]; exact (Blk.new w 28 #[.int .i64 8, .int .i64 at_, .int .i64 id, .int .i64 n, .string ⟨s.toArray⟩, .int .u64 ((a : Nat) : Int), .int .u64 ((b : Nat) : Int), .bool on, .bool v6, .int .u64 ((hi : Nat) : Int), .int .u64 ((lo : Nat) : Int), .int .i64 pk, .int .i64 ps]).alloc _
 have h2 : Blk w1 (w.heap.size + 1) 28 #[.int .i64 0, .int .i64 0, .int .i64 0, .int .i64 0, .string ⟨#[]⟩, .int .u64 0, .int .u64 0, .bool false, .bool false, .int .u64 0, .int .u64 0, .int .i64 0, .int .i64 0] := by
  rw [hw1]
  have := Blk.new (w.alloc (.cells #[.int .i64 8, .int .i64 at_, .int .i64 id, .int .i64 n, .string ⟨s.toArray⟩, .int .u64 ((a : Nat) : Int), .int .u64 ((b : Nat) : Int), .bool on, .bool v6, .int .u64 ((hi : Nat) : Int), .int .u64 ((lo : Nat) : Int), .int .i64 pk, .int .i64 ps] 28)) 28 #[.int .i64 0, .int .i64 0, .int .i64 0, .int .i64 0, .string ⟨#[]⟩, .int .u64 0, .int .u64 0, .bool false, .bool false, .int .u64 0, .int .u64 0, .int .i64 0, .int .i64 0]
  rw [show (w.alloc (.cells #[.int .i64 8, .int .i64 at_, .int .i64 id, .int .i64 n, .string ⟨s.toArray⟩, .int .u64 ((a : Nat) : Int), .int .u64 ((b : Nat) : Int), .bool on, .bool v6, .int .u64 ((hi : Nat) : Int), .int .u64 ((lo : Nat) : Int), .int .i64 pk, .int .i64 ps] 28)).heap.size = w.heap.size + 1 by simp] at this
  exact this
 have hne : ¬ w.heap.size = w.heap.size + 1 := by omega
 replace hne := Lib.hid hne
 replace hb1 := Lib.hid hb1
 have c0 : w1.cell? ⟨w.heap.size, 0, none⟩ = some (.int .i64 8) := Blk.cell h1 0
 have f0 := Blk.frozen h1 0
 have c7 : w1.cell? ⟨w.heap.size, 7, none⟩ = some (.bool on) := Blk.cell h1 7
 have f7 := Blk.frozen h1 7
 go_enter Tryz.func42, Tryz.ntmps42
 go_upto_region 1 with fail
 rw [← hw1]
 clear hw1
 go_upto_region 31 with fail
 have p0 : Blk (w1.setCell ⟨w.heap.size, 7, none⟩ (.bool false)) w.heap.size 28 #[.int .i64 8, .int .i64 at_, .int .i64 id, .int .i64 n, .string ⟨s.toArray⟩, .int .u64 ((a : Nat) : Int), .int .u64 ((b : Nat) : Int), .bool false, .bool v6, .int .u64 ((hi : Nat) : Int), .int .u64 ((lo : Nat) : Int), .int .i64 pk, .int .i64 ps] := Blk.setAt h1 7 (.bool false)
 have o0 : Blk (w1.setCell ⟨w.heap.size, 7, none⟩ (.bool false)) (w.heap.size + 1) 28 #[.int .i64 0, .int .i64 0, .int .i64 0, .int .i64 0, .string ⟨#[]⟩, .int .u64 0, .int .u64 0, .bool false, .bool false, .int .u64 0, .int .u64 0, .int .i64 0, .int .i64 0] := Blk.setOff h2 hne.out 7 (.bool false)
 have m0 : Below w.heap.size w (w1.setCell ⟨w.heap.size, 7, none⟩ (.bool false)) := Below.setCell hb1.out (Nat.le_refl _) _
 generalize (w1.setCell ⟨w.heap.size, 7, none⟩ (.bool false)) = w2 at *
 go_wp2_with (first
  | (with_reducible refine wpList_load_blk rfl 28 (.tmp 1) rfl w.heap.size 0 rfl p0 [.int .i64 8, .int .i64 at_, .int .i64 id, .int .i64 n, .string ⟨s.toArray⟩, .int .u64 ((a : Nat) : Int), .int .u64 ((b : Nat) : Int), .bool false, .bool v6, .int .u64 ((hi : Nat) : Int), .int .u64 ((lo : Nat) : Int), .int .i64 pk, .int .i64 ps] rfl _ Tryz.underlying28 rfl (by kernel_rfl) ?_)
  | (with_reducible refine wpList_store_blk rfl rfl 28 (.tmp 2) (.tmp 46) rfl (w.heap.size + 1) 0 rfl o0 [.int .i64 8, .int .i64 at_, .int .i64 id, .int .i64 n, .string ⟨s.toArray⟩, .int .u64 ((a : Nat) : Int), .int .u64 ((b : Nat) : Int), .bool false, .bool v6, .int .u64 ((hi : Nat) : Int), .int .u64 ((lo : Nat) : Int), .int .i64 pk, .int .i64 ps] rfl (Nat.le_of_ble_eq_true (by kernel_rfl)) (by kernel_rfl) rfl ?_; intro wy hBy hcy hzy))
 refine bodyPost_ret (v := .agg #[.int .i64 8, .int .i64 at_, .int .i64 id, .int .i64 n, .string ⟨s.toArray⟩, .int .u64 ((a : Nat) : Int), .int .u64 ((b : Nat) : Int), .bool false, .bool v6, .int .u64 ((hi : Nat) : Int), .int .u64 ((lo : Nat) : Int), .int .i64 pk, .int .i64 ps]) (results_cell rfl rfl (loadVar_blk 28 hBy [.int .i64 8, .int .i64 at_, .int .i64 id, .int .i64 n, .string ⟨s.toArray⟩, .int .u64 ((a : Nat) : Int), .int .u64 ((b : Nat) : Int), .bool false, .bool v6, .int .u64 ((hi : Nat) : Int), .int .u64 ((lo : Nat) : Int), .int .i64 pk, .int .i64 ps] rfl _ Tryz.underlying28 rfl (by kernel_rfl))) rfl ?_
 exact ⟨rfl, m0.trans (hcy.below (fun b hb h => by omega) m0.size)⟩
set_option maxRecDepth 100000 in
set_option maxHeartbeats 8000000 in
theorem rs_bare9 (at_ id n : Int) (s : List UInt8) (a b : Nat) (on v6 : Bool) (hi lo : Nat) (pk ps : Int) (w : World) :
  Calls Tryz.prog 42 #[.agg #[.int .i64 9, .int .i64 at_, .int .i64 id, .int .i64 n, .string ⟨s.toArray⟩, .int .u64 ((a : Nat) : Int), .int .u64 ((b : Nat) : Int), .bool on, .bool v6, .int .u64 ((hi : Nat) : Int), .int .u64 ((lo : Nat) : Int), .int .i64 pk, .int .i64 ps]] w fun e w' => e = .returned (.agg #[.int .i64 9, .int .i64 0, .int .i64 id, .int .i64 n, .string ⟨s.toArray⟩, .int .u64 ((a : Nat) : Int), .int .u64 ((b : Nat) : Int), .bool on, .bool v6, .int .u64 ((hi : Nat) : Int), .int .u64 ((lo : Nat) : Int), .int .i64 pk, .int .i64 ps]) ∧ Below w.heap.size w w' := by
 obtain ⟨w1, hw1⟩ : ∃ w1, w1 = (w.alloc (.cells #[.int .i64 9, .int .i64 at_, .int .i64 id, .int .i64 n, .string ⟨s.toArray⟩, .int .u64 ((a : Nat) : Int), .int .u64 ((b : Nat) : Int), .bool on, .bool v6, .int .u64 ((hi : Nat) : Int), .int .u64 ((lo : Nat) : Int), .int .i64 pk, .int .i64 ps] 28)).alloc (.cells #[.int .i64 0, .int .i64 0, .int .i64 0, .int .i64 0, .string ⟨#[]⟩, .int .u64 0, .int .u64 0, .bool false, .bool false, .int .u64 0, .int .u64 0, .int .i64 0, .int .i64 0] 28) := ⟨_, rfl⟩
 have hb1 : Below w.heap.size w w1 := hw1 ▸ below_alloc (below_alloc (Below.refl _ _) _) _
 have h1 : Blk w1 w.heap.size 28 #[.int .i64 9, .int .i64 at_, .int .i64 id, .int .i64 n, .string ⟨s.toArray⟩, .int .u64 ((a : Nat) : Int), .int .u64 ((b : Nat) : Int), .bool on, .bool v6, .int .u64 ((hi : Nat) : Int), .int .u64 ((lo : Nat) : Int), .int .i64 pk, .int .i64 ps] := by rw [hw1]; exact (Blk.new w 28 #[.int .i64 9, .int .i64 at_, .int .i64 id, .int .i64 n, .string ⟨s.toArray⟩, .int .u64 ((a : Nat) : Int), .int .u64 ((b : Nat) : Int), .bool on, .bool v6, .int .u64 ((hi : Nat) : Int), .int .u64 ((lo : Nat) : Int), .int .i64 pk, .int .i64 ps]).alloc _
 have h2 : Blk w1 (w.heap.size + 1) 28 #[.int .i64 0, .int .i64 0, .int .i64 0, .int .i64 0, .string ⟨#[]⟩, .int .u64 0, .int .u64 0, .bool false, .bool false, .int .u64 0, .int .u64 0, .int .i64 0, .int .i64 0] := by
  rw [hw1]
  have := Blk.new (w.alloc (.cells #[.int .i64 9, .int .i64 at_, .int .i64 id, .int .i64 n, .string ⟨s.toArray⟩, .int .u64 ((a : Nat) : Int), .int .u64 ((b : Nat) : Int), .bool on, .bool v6, .int .u64 ((hi : Nat) : Int), .int .u64 ((lo : Nat) : Int), .int .i64 pk, .int .i64 ps] 28)) 28 #[.int .i64 0, .int .i64 0, .int .i64 0, .int .i64 0, .string ⟨#[]⟩, .int .u64 0, .int .u64 0, .bool false, .bool false, .int .u64 0, .int .u64 0, .int .i64 0, .int .i64 0]
  rw [show (w.alloc (.cells #[.int .i64 9, .int .i64 at_, .int .i64 id, .int .i64 n, .string ⟨s.toArray⟩, .int .u64 ((a : Nat) : Int), .int .u64 ((b : Nat) : Int), .bool on, .bool v6, .int .u64 ((hi : Nat) : Int), .int .u64 ((lo : Nat) : Int), .int .i64 pk, .int .i64 ps] 28)).heap.size = w.heap.size + 1 by simp] at this
  exact this
 have hne : ¬ w.heap.size = w.heap.size + 1 := by omega
 replace hne := Lib.hid hne
 replace hb1 := Lib.hid hb1
 have c0 : w1.cell? ⟨w.heap.size, 0, none⟩ = some (.int .i64 9) := Blk.cell h1 0
 have f0 := Blk.frozen h1 0
 have c1 : w1.cell? ⟨w.heap.size, 1, none⟩ = some (.int .i64 at_) := Blk.cell h1 1
 have f1 := Blk.frozen h1 1
 go_enter Tryz.func42, Tryz.ntmps42
 go_upto_region 1 with fail
 rw [← hw1]
 clear hw1
 go_upto_region 31 with fail
 have p0 : Blk (w1.setCell ⟨w.heap.size, 1, none⟩ (.int .i64 0)) w.heap.size 28 #[.int .i64 9, .int .i64 0, .int .i64 id, .int .i64 n, .string ⟨s.toArray⟩, .int .u64 ((a : Nat) : Int), .int .u64 ((b : Nat) : Int), .bool on, .bool v6, .int .u64 ((hi : Nat) : Int), .int .u64 ((lo : Nat) : Int), .int .i64 pk, .int .i64 ps] := Blk.setAt h1 1 (.int .i64 0)
 have o0 : Blk (w1.setCell ⟨w.heap.size, 1, none⟩ (.int .i64 0)) (w.heap.size + 1) 28 #[.int .i64 0, .int .i64 0, .int .i64 0, .int .i64 0, .string ⟨#[]⟩, .int .u64 0, .int .u64 0, .bool false, .bool false, .int .u64 0, .int .u64 0, .int .i64 0, .int .i64 0] := Blk.setOff h2 hne.out 1 (.int .i64 0)
 have m0 : Below w.heap.size w (w1.setCell ⟨w.heap.size, 1, none⟩ (.int .i64 0)) := Below.setCell hb1.out (Nat.le_refl _) _
 generalize (w1.setCell ⟨w.heap.size, 1, none⟩ (.int .i64 0)) = w2 at *
 go_wp2_with (first
  | (with_reducible refine wpList_load_blk rfl 28 (.tmp 1) rfl w.heap.size 0 rfl p0 [.int .i64 9, .int .i64 0, .int .i64 id, .int .i64 n, .string ⟨s.toArray⟩, .int .u64 ((a : Nat) : Int), .int .u64 ((b : Nat) : Int), .bool on, .bool v6, .int .u64 ((hi : Nat) : Int), .int .u64 ((lo : Nat) : Int), .int .i64 pk, .int .i64 ps] rfl _ Tryz.underlying28 rfl (by kernel_rfl) ?_)
  | (with_reducible refine wpList_store_blk rfl rfl 28 (.tmp 2) (.tmp 46) rfl (w.heap.size + 1) 0 rfl o0 [.int .i64 9, .int .i64 0, .int .i64 id, .int .i64 n, .string ⟨s.toArray⟩, .int .u64 ((a : Nat) : Int), .int .u64 ((b : Nat) : Int), .bool on, .bool v6, .int .u64 ((hi : Nat) : Int), .int .u64 ((lo : Nat) : Int), .int .i64 pk, .int .i64 ps] rfl (Nat.le_of_ble_eq_true (by kernel_rfl)) (by kernel_rfl) rfl ?_; intro wy hBy hcy hzy))
 refine bodyPost_ret (v := .agg #[.int .i64 9, .int .i64 0, .int .i64 id, .int .i64 n, .string ⟨s.toArray⟩, .int .u64 ((a : Nat) : Int), .int .u64 ((b : Nat) : Int), .bool on, .bool v6, .int .u64 ((hi : Nat) : Int), .int .u64 ((lo : Nat) : Int), .int .i64 pk, .int .i64 ps]) (results_cell rfl rfl (loadVar_blk 28 hBy [.int .i64 9, .int .i64 0, .int .i64 id, .int .i64 n, .string ⟨s.toArray⟩, .int .u64 ((a : Nat) : Int), .int .u64 ((b : Nat) : Int), .bool on, .bool v6, .int .u64 ((hi : Nat) : Int), .int .u64 ((lo : Nat) : Int), .int .i64 pk, .int .i64 ps] rfl _ Tryz.underlying28 rfl (by kernel_rfl))) rfl ?_
 exact ⟨rfl, m0.trans (hcy.below (fun b hb h => by omega) m0.size)⟩
set_option maxRecDepth 100000 in
set_option maxHeartbeats 8000000 in
theorem rs_bare10 (at_ id n : Int) (s : List UInt8) (a b : Nat) (on v6 : Bool) (hi lo : Nat) (pk ps : Int) (w : World) :
  Calls Tryz.prog 42 #[.agg #[.int .i64 10, .int .i64 at_, .int .i64 id, .int .i64 n, .string ⟨s.toArray⟩, .int .u64 ((a : Nat) : Int), .int .u64 ((b : Nat) : Int), .bool on, .bool v6, .int .u64 ((hi : Nat) : Int), .int .u64 ((lo : Nat) : Int), .int .i64 pk, .int .i64 ps]] w fun e w' => e = .returned (.agg #[.int .i64 10, .int .i64 0, .int .i64 id, .int .i64 n, .string ⟨s.toArray⟩, .int .u64 ((a : Nat) : Int), .int .u64 ((b : Nat) : Int), .bool on, .bool v6, .int .u64 ((hi : Nat) : Int), .int .u64 ((lo : Nat) : Int), .int .i64 pk, .int .i64 ps]) ∧ Below w.heap.size w w' := by
 obtain ⟨w1, hw1⟩ : ∃ w1, w1 = (w.alloc (.cells #[.int .i64 10, .int .i64 at_, .int .i64 id, .int .i64 n, .string ⟨s.toArray⟩, .int .u64 ((a : Nat) : Int), .int .u64 ((b : Nat) : Int), .bool on, .bool v6, .int .u64 ((hi : Nat) : Int), .int .u64 ((lo : Nat) : Int), .int .i64 pk, .int .i64 ps] 28)).alloc (.cells #[.int .i64 0, .int .i64 0, .int .i64 0, .int .i64 0, .string ⟨#[]⟩, .int .u64 0, .int .u64 0, .bool false, .bool false, .int .u64 0, .int .u64 0, .int .i64 0, .int .i64 0] 28) := ⟨_, rfl⟩
 have hb1 : Below w.heap.size w w1 := hw1 ▸ below_alloc (below_alloc (Below.refl _ _) _) _
 have h1 : Blk w1 w.heap.size 28 #[.int .i64 10, .int .i64 at_, .int .i64 id, .int .i64 n, .string ⟨s.toArray⟩, .int .u64 ((a : Nat) : Int), .int .u64 ((b : Nat) : Int), .bool on, .bool v6, .int .u64 ((hi : Nat) : Int), .int .u64 ((lo : Nat) : Int), .int .i64 pk, .int .i64 ps] := by rw [hw1]; exact (Blk.new w 28 #[.int .i64 10, .int .i64 at_, .int .i64 id, .int .i64 n, .string ⟨s.toArray⟩, .int .u64 ((a : Nat) : Int), .int .u64 ((b : Nat) : Int), .bool on, .bool v6, .int .u64 ((hi : Nat) : Int), .int .u64 ((lo : Nat) : Int), .int .i64 pk, .int .i64 ps]).alloc _
 have h2 : Blk w1 (w.heap.size + 1) 28 #[.int .i64 0, .int .i64 0, .int .i64 0, .int .i64 0, .string ⟨#[]⟩, .int .u64 0, .int .u64 0, .bool false, .bool false, .int .u64 0, .int .u64 0, .int .i64 0, .int .i64 0] := by
  rw [hw1]
  have := Blk.new (w.alloc (.cells #[.int .i64 10, .int .i64 at_, .int .i64 id, .int .i64 n, .string ⟨s.toArray⟩, .int .u64 ((a : Nat) : Int), .int .u64 ((b : Nat) : Int), .bool on, .bool v6, .int .u64 ((hi : Nat) : Int), .int .u64 ((lo : Nat) : Int), .int .i64 pk, .int .i64 ps] 28)) 28 #[.int .i64 0, .int .i64 0, .int .i64 0, .int .i64 0, .string ⟨#[]⟩, .int .u64 0, .int .u64 0, .bool false, .bool false, .int .u64 0, .int .u64 0, .int .i64 0, .int .i64 0]
  rw [show (w.alloc (.cells #[.int .i64 10, .int .i64 at_, .int .i64 id, .int .i64 n, .string ⟨s.toArray⟩, .int .u64 ((a : Nat) : Int), .int .u64 ((b : Nat) : Int), .bool on, .bool v6, .int .u64 ((hi : Nat) : Int), .int .u64 ((lo : Nat) : Int), .int .i64 pk, .int .i64 ps] 28)).heap.size = w.heap.size + 1 by simp] at this
  exact this
 have hne : ¬ w.heap.size = w.heap.size + 1 := by omega
 replace hne := Lib.hid hne
 replace hb1 := Lib.hid hb1
 have c0 : w1.cell? ⟨w.heap.size, 0, none⟩ = some (.int .i64 10) := Blk.cell h1 0
 have f0 := Blk.frozen h1 0
 have c1 : w1.cell? ⟨w.heap.size, 1, none⟩ = some (.int .i64 at_) := Blk.cell h1 1
 have f1 := Blk.frozen h1 1
 go_enter Tryz.func42, Tryz.ntmps42
 go_upto_region 1 with fail
 rw [← hw1]
 clear hw1
 go_upto_region 31 with fail
 have p0 : Blk (w1.setCell ⟨w.heap.size, 1, none⟩ (.int .i64 0)) w.heap.size 28 #[.int .i64 10, .int .i64 0, .int .i64 id, .int .i64 n, .string ⟨s.toArray⟩, .int .u64 ((a : Nat) : Int), .int .u64 ((b : Nat) : Int), .bool on, .bool v6, .int .u64 ((hi : Nat) : Int), .int .u64 ((lo : Nat) : Int), .int .i64 pk, .int .i64 ps] := Blk.setAt h1 1 (.int .i64 0)
 have o0 : Blk (w1.setCell ⟨w.heap.size, 1, none⟩ (.int .i64 0)) (w.heap.size + 1) 28 #[.int .i64 0, .int .i64 0, .int .i64 0, .int .i64 0, .string ⟨#[]⟩, .int .u64 0, .int .u64 0, .bool false, .bool false, .int .u64 0, .int .u64 0, .int .i64 0, .int .i64 0] := Blk.setOff h2 hne.out 1 (.int .i64 0)
 have m0 : Below w.heap.size w (w1.setCell ⟨w.heap.size, 1, none⟩ (.int .i64 0)) := Below.setCell hb1.out (Nat.le_refl _) _
 generalize (w1.setCell ⟨w.heap.size, 1, none⟩ (.int .i64 0)) = w2 at *
 go_wp2_with (first
  | (with_reducible refine wpList_load_blk rfl 28 (.tmp 1) rfl w.heap.size 0 rfl p0 [.int .i64 10, .int .i64 0, .int .i64 id, .int .i64 n, .string ⟨s.toArray⟩, .int .u64 ((a : Nat) : Int), .int .u64 ((b : Nat) : Int), .bool on, .bool v6, .int .u64 ((hi : Nat) : Int), .int .u64 ((lo : Nat) : Int), .int .i64 pk, .int .i64 ps] rfl _ Tryz.underlying28 rfl (by kernel_rfl) ?_)
  | (with_reducible refine wpList_store_blk rfl rfl 28 (.tmp 2) (.tmp 46) rfl (w.heap.size + 1) 0 rfl o0 [.int .i64 10, .int .i64 0, .int .i64 id, .int .i64 n, .string ⟨s.toArray⟩, .int .u64 ((a : Nat) : Int), .int .u64 ((b : Nat) : Int), .bool on, .bool v6, .int .u64 ((hi : Nat) : Int), .int .u64 ((lo : Nat) : Int), .int .i64 pk, .int .i64 ps] rfl (Nat.le_of_ble_eq_true (by kernel_rfl)) (by kernel_rfl) rfl ?_; intro wy hBy hcy hzy))
 refine bodyPost_ret (v := .agg #[.int .i64 10, .int .i64 0, .int .i64 id, .int .i64 n, .string ⟨s.toArray⟩, .int .u64 ((a : Nat) : Int), .int .u64 ((b : Nat) : Int), .bool on, .bool v6, .int .u64 ((hi : Nat) : Int), .int .u64 ((lo : Nat) : Int), .int .i64 pk, .int .i64 ps]) (results_cell rfl rfl (loadVar_blk 28 hBy [.int .i64 10, .int .i64 0, .int .i64 id, .int .i64 n, .string ⟨s.toArray⟩, .int .u64 ((a : Nat) : Int), .int .u64 ((b : Nat) : Int), .bool on, .bool v6, .int .u64 ((hi : Nat) : Int), .int .u64 ((lo : Nat) : Int), .int .i64 pk, .int .i64 ps] rfl _ Tryz.underlying28 rfl (by kernel_rfl))) rfl ?_
 exact ⟨rfl, m0.trans (hcy.below (fun b hb h => by omega) m0.size)⟩
set_option maxRecDepth 100000 in
set_option maxHeartbeats 8000000 in
theorem rs_bare11 (at_ id n : Int) (s : List UInt8) (a b : Nat) (on v6 : Bool) (hi lo : Nat) (pk ps : Int) (w : World) :
  Calls Tryz.prog 42 #[.agg #[.int .i64 11, .int .i64 at_, .int .i64 id, .int .i64 n, .string ⟨s.toArray⟩, .int .u64 ((a : Nat) : Int), .int .u64 ((b : Nat) : Int), .bool on, .bool v6, .int .u64 ((hi : Nat) : Int), .int .u64 ((lo : Nat) : Int), .int .i64 pk, .int .i64 ps]] w fun e w' => e = .returned (.agg #[.int .i64 11, .int .i64 at_, .int .i64 id, .int .i64 0, .string ⟨s.toArray⟩, .int .u64 ((a : Nat) : Int), .int .u64 ((b : Nat) : Int), .bool on, .bool v6, .int .u64 ((hi : Nat) : Int), .int .u64 ((lo : Nat) : Int), .int .i64 pk, .int .i64 ps]) ∧ Below w.heap.size w w' := by
 obtain ⟨w1, hw1⟩ : ∃ w1, w1 = (w.alloc (.cells #[.int .i64 11, .int .i64 at_, .int .i64 id, .int .i64 n, .string ⟨s.toArray⟩, .int .u64 ((a : Nat) : Int), .int .u64 ((b : Nat) : Int), .bool on, .bool v6, .int .u64 ((hi : Nat) : Int), .int .u64 ((lo : Nat) : Int), .int .i64 pk, .int .i64 ps] 28)).alloc (.cells #[.int .i64 0, .int .i64 0, .int .i64 0, .int .i64 0, .string ⟨#[]⟩, .int .u64 0, .int .u64 0, .bool false, .bool false, .int .u64 0, .int .u64 0, .int .i64 0, .int .i64 0] 28) := ⟨_, rfl⟩
 have hb1 : Below w.heap.size w w1 := hw1 ▸ below_alloc (below_alloc (Below.refl _ _) _) _
 have h1 : Blk w1 w.heap.size 28 #[.int .i64 11, .int .i64 at_, .int .i64 id, .int .i64 n, .string ⟨s.toArray⟩, .int .u64 ((a : Nat) : Int), .int .u64 ((b : Nat) : Int), .bool on, .bool v6, .int .u64 ((hi : Nat) : Int), .int .u64 ((lo : Nat) : Int), .int .i64 pk, .int .i64 ps] := by rw [hw1]; exact (Blk.new w 28 #[.int .i64 11, .int .i64 at_, .int .i64 id, .int .i64 n, .string ⟨s.toArray⟩, .int .u64 ((a : Nat) : Int), .int .u64 ((b : Nat) : Int), .bool on, .bool v6, .int .u64 ((hi : Nat) : Int), .int .u64 ((lo : Nat) : Int), .int .i64 pk, .int .i64 ps]).alloc _
 have h2 : Blk w1 (w.heap.size + 1) 28 #[.int .i64 0, .int .i64 0, .int .i64 0, .int .i64 0, .string ⟨#[]⟩, .int .u64 0, .int .u64 0, .bool false, .bool false, .int .u64 0, .int .u64 0, .int .i64 0, .int .i64 0] := by
  rw [hw1]
  have := Blk.new (w.alloc (.cells #[.int .i64 11, .int .i64 at_, .int .i64 id, .int .i64 n, .string ⟨s.toArray⟩, .int .u64 ((a : Nat) : Int), .int .u64 ((b : Nat) : Int), .bool on, .bool v6, .int .u64 ((hi : Nat) : Int), .int .u64 ((lo : Nat) : Int), .int .i64 pk, .int .i64 ps] 28)) 28 #[.int .i64 0, .int .i64 0, .int .i64 0, .int .i64 0, .string ⟨#[]⟩, .int .u64 0, .int .u64 0, .bool false, .bool false, .int .u64 0, .int .u64 0, .int .i64 0, .int .i64 0]
  rw [show (w.alloc (.cells #[.int .i64 11, .int .i64 at_, .int .i64 id, .int .i64 n, .string ⟨s.toArray⟩, .int .u64 ((a : Nat) : Int), .int .u64 ((b : Nat) : Int), .bool on, .bool v6, .int .u64 ((hi : Nat) : Int), .int .u64 ((lo : Nat) : Int), .int .i64 pk, .int .i64 ps] 28)).heap.size = w.heap.size + 1 by simp] at this
  exact this
 have hne : ¬ w.heap.size = w.heap.size + 1 := by omega
 replace hne := Lib.hid hne
 replace hb1 := Lib.hid hb1
 have c0 : w1.cell? ⟨w.heap.size, 0, none⟩ = some (.int .i64 11) := Blk.cell h1 0
 have f0 := Blk.frozen h1 0
 have c3 : w1.cell? ⟨w.heap.size, 3, none⟩ = some (.int .i64 n) := Blk.cell h1 3
 have f3 := Blk.frozen h1 3
 go_enter Tryz.func42, Tryz.ntmps42
 go_upto_region 1 with fail
 rw [← hw1]
 clear hw1
 go_upto_region 31 with fail
 have p0 : Blk (w1.setCell ⟨w.heap.size, 3, none⟩ (.int .i64 0)) w.heap.size 28 #[.int .i64 11, .int .i64 at_, .int .i64 id, .int .i64 0, .string ⟨s.toArray⟩, .int .u64 ((a : Nat) : Int), .int .u64 ((b : Nat) : Int), .bool on, .bool v6, .int .u64 ((hi : Nat) : Int), .int .u64 ((lo : Nat) : Int), .int .i64 pk, .int .i64 ps] := Blk.setAt h1 3 (.int .i64 0)
 have o0 : Blk (w1.setCell ⟨w.heap.size, 3, none⟩ (.int .i64 0)) (w.heap.size + 1) 28 #[.int .i64 0, .int .i64 0, .int .i64 0, .int .i64 0, .string ⟨#[]⟩, .int .u64 0, .int .u64 0, .bool false, .bool false, .int .u64 0, .int .u64 0, .int .i64 0, .int .i64 0] := Blk.setOff h2 hne.out 3 (.int .i64 0)
 have m0 : Below w.heap.size w (w1.setCell ⟨w.heap.size, 3, none⟩ (.int .i64 0)) := Below.setCell hb1.out (Nat.le_refl _) _
 generalize (w1.setCell ⟨w.heap.size, 3, none⟩ (.int .i64 0)) = w2 at *
 go_wp2_with (first
  | (with_reducible refine wpList_load_blk rfl 28 (.tmp 1) rfl w.heap.size 0 rfl p0 [.int .i64 11, .int .i64 at_, .int .i64 id, .int .i64 0, .string ⟨s.toArray⟩, .int .u64 ((a : Nat) : Int), .int .u64 ((b : Nat) : Int), .bool on, .bool v6, .int .u64 ((hi : Nat) : Int), .int .u64 ((lo : Nat) : Int), .int .i64 pk, .int .i64 ps] rfl _ Tryz.underlying28 rfl (by kernel_rfl) ?_)
  | (with_reducible refine wpList_store_blk rfl rfl 28 (.tmp 2) (.tmp 46) rfl (w.heap.size + 1) 0 rfl o0 [.int .i64 11, .int .i64 at_, .int .i64 id, .int .i64 0, .string ⟨s.toArray⟩, .int .u64 ((a : Nat) : Int), .int .u64 ((b : Nat) : Int), .bool on, .bool v6, .int .u64 ((hi : Nat) : Int), .int .u64 ((lo : Nat) : Int), .int .i64 pk, .int .i64 ps] rfl (Nat.le_of_ble_eq_true (by kernel_rfl)) (by kernel_rfl) rfl ?_; intro wy hBy hcy hzy))
 refine bodyPost_ret (v := .agg #[.int .i64 11, .int .i64 at_, .int .i64 id, .int .i64 0, .string ⟨s.toArray⟩, .int .u64 ((a : Nat) : Int), .int .u64 ((b : Nat) : Int), .bool on, .bool v6, .int .u64 ((hi : Nat) : Int), .int .u64 ((lo : Nat) : Int), .int .i64 pk, .int .i64 ps]) (results_cell rfl rfl (loadVar_blk 28 hBy [.int .i64 11, .int .i64 at_, .int .i64 id, .int .i64 0, .string ⟨s.toArray⟩, .int .u64 ((a : Nat) : Int), .int .u64 ((b : Nat) : Int), .bool on, .bool v6, .int .u64 ((hi : Nat) : Int), .int .u64 ((lo : Nat) : Int), .int .i64 pk, .int .i64 ps] rfl _ Tryz.underlying28 rfl (by kernel_rfl))) rfl ?_
 exact ⟨rfl, m0.trans (hcy.below (fun b hb h => by omega) m0.size)⟩
theorem rs_bare (x : ActL) (w : World) (h0 : 0 ≤ x.k) (h11 : x.k ≤ 11) :
  Calls Tryz.prog 42 #[.agg (actCs x)] w fun e w' => e = .returned (.agg (actCs (bareL x))) ∧ Below w.heap.size w w' := by
 obtain ⟨k, at_, id, n, s, a, b, on, v6, hi, lo, pk, ps⟩ := x
 have hk : k = 0 ∨ k = 1 ∨ k = 2 ∨ k = 3 ∨ k = 4 ∨ k = 5 ∨ k = 6 ∨ k = 7 ∨ k = 8 ∨ k = 9 ∨ k = 10 ∨ k = 11 := by
  simp only at h0 h11
  omega
 clear h0 h11
 rcases hk with rfl | rfl | rfl | rfl | rfl | rfl | rfl | rfl | rfl | rfl | rfl | rfl
 · exact rs_bare0 at_ id n s a b on v6 hi lo pk ps w
 · exact rs_bare1 at_ id n s a b on v6 hi lo pk ps w
 · exact rs_bare2 at_ id n s a b on v6 hi lo pk ps w
 · exact rs_bare3 at_ id n s a b on v6 hi lo pk ps w
 · exact rs_bare4 at_ id n s a b on v6 hi lo pk ps w
 · exact rs_bare5 at_ id n s a b on v6 hi lo pk ps w
 · exact rs_bare6 at_ id n s a b on v6 hi lo pk ps w
 · exact rs_bare7 at_ id n s a b on v6 hi lo pk ps w
 · exact rs_bare8 at_ id n s a b on v6 hi lo pk ps w
 · exact rs_bare9 at_ id n s a b on v6 hi lo pk ps w
 · exact rs_bare10 at_ id n s a b on v6 hi lo pk ps w
 · exact rs_bare11 at_ id n s a b on v6 hi lo pk ps w
end Go.Proofs.YtodbgjnccngljaaGreatDoor
