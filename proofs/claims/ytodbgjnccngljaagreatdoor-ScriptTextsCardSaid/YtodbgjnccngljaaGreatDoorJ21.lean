/- script.act: kinds 6, 7, 8. script.act: kinds 9, 10, 11. script.act: any line. -/
import Derived.Test.YtodbgjnccngljaaGreatDoorJ20
import Derived.Test.YtodbgjnccngljaaGreatDoorJ10
namespace Go.Proofs.YtodbgjnccngljaaGreatDoor
open Go Go.RowKit Go.Deep
set_option maxRecDepth 100000 in
set_option maxHeartbeats 16000000 in
theorem scr_act6 (l : List UInt8) (wd : List UInt8) (r : List (List UInt8)) (w : World) (hw : Std w) (hL : l.length ≤ 10000) (hp : parts 32 l = wd :: r) (hkd : kindP wd = some 6) :
  Calls Tryz.prog 30 #[.string ⟨l.toArray⟩] w fun e w' => e = actE (argsP 6 r) ∧ Below w.heap.size w w' := by
 rw [args_seq6]
 have hj : restL (wd :: r) = l := by unfold restL; rw [← hp]; exact join_parts 32 l
 have hsp : ∀ x ∈ wd :: r, (32 : UInt8) ∉ x := by rw [← hp]; exact not_mem_parts 32 l
 have hl0 : (restL (wd :: r)).length ≤ 10000 := by rw [hj]; exact hL
 obtain ⟨w1, hw1⟩ : ∃ w1, w1 = (w.alloc (.cells #[.int .i64 0, .int .i64 0, .int .i64 0, .int .i64 0, .string ⟨#[]⟩, .int .u64 0, .int .u64 0, .bool false, .bool false, .int .u64 0, .int .u64 0, .int .i64 0, .int .i64 0] 34)).alloc (.cells #[.string ⟨l.toArray⟩, .bool true] 95) := ⟨_, rfl⟩
 have hb1 : Below w.heap.size w w1 := hw1 ▸ below_alloc (below_alloc (Below.refl _ _) _) _
 have hs1 : w1.heap.size = w.heap.size + 2 := by rw [hw1]; simp
 have hc1 : Cur w1 (w.heap.size + 1) (wd :: r) := by
  unfold Cur
  rw [hj, hw1]
  have := Blk.new (w.alloc (.cells #[.int .i64 0, .int .i64 0, .int .i64 0, .int .i64 0, .string ⟨#[]⟩, .int .u64 0, .int .u64 0, .bool false, .bool false, .int .u64 0, .int .u64 0, .int .i64 0, .int .i64 0] 34)) 95 #[.string ⟨l.toArray⟩, .bool true]
  rw [show (w.alloc (.cells #[.int .i64 0, .int .i64 0, .int .i64 0, .int .i64 0, .string ⟨#[]⟩, .int .u64 0, .int .u64 0, .bool false, .bool false, .int .u64 0, .int .u64 0, .int .i64 0, .int .i64 0] 34)).heap.size = w.heap.size + 1 by simp] at this
  exact this
 have hr1 : Blk w1 w.heap.size 34 #[.int .i64 0, .int .i64 0, .int .i64 0, .int .i64 0, .string ⟨#[]⟩, .int .u64 0, .int .u64 0, .bool false, .bool false, .int .u64 0, .int .u64 0, .int .i64 0, .int .i64 0] := by rw [hw1]; exact (Blk.new w 34 #[.int .i64 0, .int .i64 0, .int .i64 0, .int .i64 0, .string ⟨#[]⟩, .int .u64 0, .int .u64 0, .bool false, .bool false, .int .u64 0, .int .u64 0, .int .i64 0, .int .i64 0]).alloc _
 have hS : ∀ W, Chg (· = w.heap.size + 1) w1 W → Std W := fun W h => hw.below (below_cur hb1 h (by omega))
 have KK := reads_kind (w.heap.size + 1) (wd :: r) w1 (hw.below hb1) hc1 hsp hl0 hS
 have ht : takeP kindP (wd :: r) = some (6, r) := by show (kindP wd).map (fun v => (v, r)) = _; rw [hkd]; rfl
 have hsp' := (take_sp ht hsp hl0).1
 have hl' := (take_sp ht hsp hl0).2
 simp only [ht] at KK
 replace KK := Lib.hid (show Calls Tryz.prog 54 #[.pointer (some ⟨w.heap.size + 1, 0, none⟩)] w1 fun e w' => Chg (· = w.heap.size + 1) w1 w' ∧ e = .returned (.int .i64 6) ∧ Cur w' (w.heap.size + 1) r from KK)
 replace hS := Lib.hid hS
 clear ht hsp hl0 hkd hc1
 replace hp := Lib.hid hp
 replace hj := Lib.hid hj
 replace hL := Lib.hid hL
 go_enter Tryz.func30, Tryz.ntmps30
 go_upto_region 2 with fail
 rw [← hw1]
 clear hw1
 have h2g : ¬ w.heap.size = w.heap.size + 1 := by omega
 replace hb1 := Lib.hid hb1
 replace h2g := Lib.hid h2g
 go_upto_region 3 with (go_at_call 54; (refine KK.out.mono ?_); rintro e w2 ⟨hk2, rfl, hc2⟩)
 have hb4 : w1.heap.size ≤ w2.heap.size := hk2.size
 have hI : AInv w1 (w2.alloc (.cells #[.int .i64 6, .int .i64 0, .int .i64 0, .int .i64 0, .string ⟨#[]⟩, .int .u64 0, .int .u64 0, .bool false, .bool false, .int .u64 0, .int .u64 0, .int .i64 0, .int .i64 0] 34)) (w.heap.size + 1) w.heap.size w2.heap.size r #[.int .i64 6, .int .i64 0, .int .i64 0, .int .i64 0, .string ⟨#[]⟩, .int .u64 0, .int .u64 0, .bool false, .bool false, .int .u64 0, .int .u64 0, .int .i64 0, .int .i64 0] #[.int .i64 0, .int .i64 0, .int .i64 0, .int .i64 0, .string ⟨#[]⟩, .int .u64 0, .int .u64 0, .bool false, .bool false, .int .u64 0, .int .u64 0, .int .i64 0, .int .i64 0] := ⟨hk2.alloc _, Blk.alloc hc2 _, Blk.new _ _ _, (hr1.chg hk2 h2g.out).alloc _⟩
 clear hk2 hc2 hr1
 generalize w2.alloc (.cells #[.int .i64 6, .int .i64 0, .int .i64 0, .int .i64 0, .string ⟨#[]⟩, .int .u64 0, .int .u64 0, .bool false, .bool false, .int .u64 0, .int .u64 0, .int .i64 0, .int .i64 0] 34) = w3 at *
 generalize w2.heap.size = b4 at *
 have h4g : ¬ b4 = w.heap.size + 1 := by omega
 have h42 : ¬ b4 = w.heap.size := by omega
 have c0 : w3.cell? ⟨b4, 0, none⟩ = some (.int .i64 6) := hI.b.cell 0
 replace hb4 := Lib.hid hb4
 clear hs1
 go_upto_region 14 with fail
 cases h0 : takeP numP r with
 | none =>
  have R0 := Lib.hid (read_no (z := #[.int .i64 0, .int .i64 0, .int .i64 0, .int .i64 0, .string ⟨#[]⟩, .int .u64 0, .int .u64 0, .bool false, .bool false, .int .u64 0, .int .u64 0, .int .i64 0, .int .i64 0]) (cs := #[.int .i64 6, .int .i64 0, .int .i64 0, .int .i64 0, .string ⟨#[]⟩, .int .u64 0, .int .u64 0, .bool false, .bool false, .int .u64 0, .int .u64 0, .int .i64 0, .int .i64 0]) reads_number hS.out h2g.out h4g hsp' hl' h0)
  go_wp2_with (first
   | (go_at_call 55; (with_reducible refine (R0.out _ hI).mono ?_); rintro e wn ⟨rfl, hkn⟩))
  exact ⟨rfl, by simp only [seqT, h0]; rfl, below_cur hb1.out hkn (by omega)⟩
 | some v0 =>
  obtain ⟨y0, r1⟩ := v0
  obtain ⟨hsp1, hl1⟩ := take_sp h0 hsp' hl'
  have R0 := Lib.hid (read_yes (z := #[.int .i64 0, .int .i64 0, .int .i64 0, .int .i64 0, .string ⟨#[]⟩, .int .u64 0, .int .u64 0, .bool false, .bool false, .int .u64 0, .int .u64 0, .int .i64 0, .int .i64 0]) (cs := #[.int .i64 6, .int .i64 0, .int .i64 0, .int .i64 0, .string ⟨#[]⟩, .int .u64 0, .int .u64 0, .bool false, .bool false, .int .u64 0, .int .u64 0, .int .i64 0, .int .i64 0]) reads_number hS.out h2g.out h4g hsp' hl' h0)
  cases h1 : takeP onP r1 with
  | none =>
   have R1 := Lib.hid (read_no (z := #[.int .i64 0, .int .i64 0, .int .i64 0, .int .i64 0, .string ⟨#[]⟩, .int .u64 0, .int .u64 0, .bool false, .bool false, .int .u64 0, .int .u64 0, .int .i64 0, .int .i64 0]) (cs := #[.int .i64 6, .int .i64 0, .int .i64 0, .int .i64 0, .string ⟨#[]⟩, .int .u64 0, .int .u64 0, .bool false, .bool false, .int .u64 0, .int .u64 0, .int .i64 0, .int .i64 0]) reads_on hS.out h2g.out h4g hsp1 hl1 h1)
   go_wp2_with (first
    | (go_at_call 55; (with_reducible refine (R0.out _ hI).mono ?_); rintro e w4 ⟨rfl, hI1⟩)
    | (go_at_call 59; (with_reducible refine (R1.out _ hI1).mono ?_); rintro e wn ⟨rfl, hkn⟩))
   exact ⟨rfl, by simp only [seqT, h0, h1]; rfl, below_cur hb1.out hkn (by omega)⟩
  | some v1 =>
   obtain ⟨y1, r2⟩ := v1
   obtain ⟨hsp2, hl2⟩ := take_sp h1 hsp1 hl1
   have R1 := Lib.hid (read_yes (z := #[.int .i64 0, .int .i64 0, .int .i64 0, .int .i64 0, .string ⟨#[]⟩, .int .u64 0, .int .u64 0, .bool false, .bool false, .int .u64 0, .int .u64 0, .int .i64 0, .int .i64 0]) (cs := #[.int .i64 6, .int .i64 0, .int .i64 0, .int .i64 0, .string ⟨#[]⟩, .int .u64 0, .int .u64 0, .bool false, .bool false, .int .u64 0, .int .u64 0, .int .i64 0, .int .i64 0]) reads_on hS.out h2g.out h4g hsp1 hl1 h1)
   go_upto_region 26 with (first
    | (go_at_call 55; (with_reducible refine (R0.out _ hI).mono ?_); rintro e w4 ⟨rfl, hI1⟩)
    | (go_at_call 59; (with_reducible refine (R1.out _ hI1).mono ?_); rintro e w5 ⟨rfl, hI2⟩; have d2 := Blk.frozen hI2.b 2; have q2 : w5.cell? ⟨b4, 2, none⟩ = some (.int .i64 0) := Blk.cell hI2.b 2; have d7 := Blk.frozen hI2.b 7; have q7 : w5.cell? ⟨b4, 7, none⟩ = some (.bool false) := Blk.cell hI2.b 7))
   have hJ : AInv w1 ((w5.setCell ⟨b4, 2, none⟩ (.int .i64 y0)).setCell ⟨b4, 7, none⟩ (.bool y1)) (w.heap.size + 1) w.heap.size b4 r2 #[.int .i64 6, .int .i64 0, .int .i64 y0, .int .i64 0, .string ⟨#[]⟩, .int .u64 0, .int .u64 0, .bool y1, .bool false, .int .u64 0, .int .u64 0, .int .i64 0, .int .i64 0] #[.int .i64 0, .int .i64 0, .int .i64 0, .int .i64 0, .string ⟨#[]⟩, .int .u64 0, .int .u64 0, .bool false, .bool false, .int .u64 0, .int .u64 0, .int .i64 0, .int .i64 0] := ((hI2.set h4g h42 hb4.out 2 (.int .i64 y0)).set h4g h42 hb4.out 7 (.bool y1))
   generalize ((w5.setCell ⟨b4, 2, none⟩ (.int .i64 y0)).setCell ⟨b4, 7, none⟩ (.bool y1)) = wz at *
   clear c0 d2 q2 d7 q7 hI hI1 hI2
   cases r2 with
   | cons a t =>
    have k1 : wz.cell? ⟨w.heap.size + 1, 1, none⟩ = some (.bool true) := Blk.cell hJ.c 1
    have MF := Lib.hid must_false
    go_wp2_with (go_at_call 60; (refine (MF.out _).mono ?_); rintro e wn ⟨rfl, rfl⟩)
    exact ⟨rfl, by simp only [seqT, h0, h1]; rfl, below_cur hb1.out hJ.k (by omega)⟩
   | nil =>
    have k1 : wz.cell? ⟨w.heap.size + 1, 1, none⟩ = some (.bool false) := Blk.cell hJ.c 1
    have MT := Lib.hid must_true
    go_wp2_with (first
     | (go_at_call 60; (refine (MT.out _).mono ?_); rintro e wn ⟨rfl, rfl⟩)
     | (with_reducible refine wpList_load_blk rfl 34 (.tmp 4) rfl b4 0 rfl hJ.b [.int .i64 6, .int .i64 0, .int .i64 y0, .int .i64 0, .string ⟨#[]⟩, .int .u64 0, .int .u64 0, .bool y1, .bool false, .int .u64 0, .int .u64 0, .int .i64 0, .int .i64 0] rfl _ Tryz.underlying34 rfl (by kernel_rfl) ?_)
     | (with_reducible refine wpList_store_blk rfl rfl 34 (.tmp 2) (.tmp 95) rfl w.heap.size 0 rfl hJ.r [.int .i64 6, .int .i64 0, .int .i64 y0, .int .i64 0, .string ⟨#[]⟩, .int .u64 0, .int .u64 0, .bool y1, .bool false, .int .u64 0, .int .u64 0, .int .i64 0, .int .i64 0] rfl (Nat.le_of_ble_eq_true (by kernel_rfl)) (by kernel_rfl) rfl ?_; intro wy hBy hcy hzy))
    refine bodyPost_ret (v := .agg #[.int .i64 6, .int .i64 0, .int .i64 y0, .int .i64 0, .string ⟨#[]⟩, .int .u64 0, .int .u64 0, .bool y1, .bool false, .int .u64 0, .int .u64 0, .int .i64 0, .int .i64 0]) (results_cell rfl rfl (loadVar_blk 34 hBy [.int .i64 6, .int .i64 0, .int .i64 y0, .int .i64 0, .string ⟨#[]⟩, .int .u64 0, .int .u64 0, .bool y1, .bool false, .int .u64 0, .int .u64 0, .int .i64 0, .int .i64 0] rfl _ Tryz.underlying34 rfl (by kernel_rfl))) rfl ?_
    exact ⟨by simp only [seqT, h0, h1]; rfl, (below_cur hb1.out hJ.k (by omega)).trans (hcy.below (fun b hb h => by omega) (below_cur hb1.out hJ.k (by omega)).size)⟩
set_option maxRecDepth 100000 in
set_option maxHeartbeats 16000000 in
theorem scr_act7 (l : List UInt8) (wd : List UInt8) (r : List (List UInt8)) (w : World) (hw : Std w) (hL : l.length ≤ 10000) (hp : parts 32 l = wd :: r) (hkd : kindP wd = some 7) :
  Calls Tryz.prog 30 #[.string ⟨l.toArray⟩] w fun e w' => e = actE (argsP 7 r) ∧ Below w.heap.size w w' := by
 rw [args_seq7]
 have hj : restL (wd :: r) = l := by unfold restL; rw [← hp]; exact join_parts 32 l
 have hsp : ∀ x ∈ wd :: r, (32 : UInt8) ∉ x := by rw [← hp]; exact not_mem_parts 32 l
 have hl0 : (restL (wd :: r)).length ≤ 10000 := by rw [hj]; exact hL
 obtain ⟨w1, hw1⟩ : ∃ w1, w1 = (w.alloc (.cells #[.int .i64 0, .int .i64 0, .int .i64 0, .int .i64 0, .string ⟨#[]⟩, .int .u64 0, .int .u64 0, .bool false, .bool false, .int .u64 0, .int .u64 0, .int .i64 0, .int .i64 0] 34)).alloc (.cells #[.string ⟨l.toArray⟩, .bool true] 95) := ⟨_, rfl⟩
 have hb1 : Below w.heap.size w w1 := hw1 ▸ below_alloc (below_alloc (Below.refl _ _) _) _
 have hs1 : w1.heap.size = w.heap.size + 2 := by rw [hw1]; simp
 have hc1 : Cur w1 (w.heap.size + 1) (wd :: r) := by
  unfold Cur
  rw [hj, hw1]
  have := Blk.new (w.alloc (.cells #[.int .i64 0, .int .i64 0, .int .i64 0, .int .i64 0, .string ⟨#[]⟩, .int .u64 0, .int .u64 0, .bool false, .bool false, .int .u64 0, .int .u64 0, .int .i64 0, .int .i64 0] 34)) 95 #[.string ⟨l.toArray⟩, .bool true]
  rw [show (w.alloc (.cells #[.int .i64 0, .int .i64 0, .int .i64 0, .int .i64 0, .string ⟨#[]⟩, .int .u64 0, .int .u64 0, .bool false, .bool false, .int .u64 0, .int .u64 0, .int .i64 0, .int .i64 0] 34)).heap.size = w.heap.size + 1 by simp] at this
  exact this
 have hr1 : Blk w1 w.heap.size 34 #[.int .i64 0, .int .i64 0, .int .i64 0, .int .i64 0, .string ⟨#[]⟩, .int .u64 0, .int .u64 0, .bool false, .bool false, .int .u64 0, .int .u64 0, .int .i64 0, .int .i64 0] := by rw [hw1]; exact (Blk.new w 34 #[.int .i64 0, .int .i64 0, .int .i64 0, .int .i64 0, .string ⟨#[]⟩, .int .u64 0, .int .u64 0, .bool false, .bool false, .int .u64 0, .int .u64 0, .int .i64 0, .int .i64 0]).alloc _
 have hS : ∀ W, Chg (· = w.heap.size + 1) w1 W → Std W := fun W h => hw.below (below_cur hb1 h (by omega))
 have KK := reads_kind (w.heap.size + 1) (wd :: r) w1 (hw.below hb1) hc1 hsp hl0 hS
 have ht : takeP kindP (wd :: r) = some (7, r) := by show (kindP wd).map (fun v => (v, r)) = _; rw [hkd]; rfl
 have hsp' := (take_sp ht hsp hl0).1
 have hl' := (take_sp ht hsp hl0).2
 simp only [ht] at KK
 replace KK := Lib.hid (show Calls Tryz.prog 54 #[.pointer (some ⟨w.heap.size + 1, 0, none⟩)] w1 fun e w' => Chg (· = w.heap.size + 1) w1 w' ∧ e = .returned (.int .i64 7) ∧ Cur w' (w.heap.size + 1) r from KK)
 replace hS := Lib.hid hS
 clear ht hsp hl0 hkd hc1
 replace hp := Lib.hid hp
 replace hj := Lib.hid hj
 replace hL := Lib.hid hL
 go_enter Tryz.func30, Tryz.ntmps30
 go_upto_region 2 with fail
 rw [← hw1]
 clear hw1
 have h2g : ¬ w.heap.size = w.heap.size + 1 := by omega
 replace hb1 := Lib.hid hb1
 replace h2g := Lib.hid h2g
 go_upto_region 3 with (go_at_call 54; (refine KK.out.mono ?_); rintro e w2 ⟨hk2, rfl, hc2⟩)
 have hb4 : w1.heap.size ≤ w2.heap.size := hk2.size
 have hI : AInv w1 (w2.alloc (.cells #[.int .i64 7, .int .i64 0, .int .i64 0, .int .i64 0, .string ⟨#[]⟩, .int .u64 0, .int .u64 0, .bool false, .bool false, .int .u64 0, .int .u64 0, .int .i64 0, .int .i64 0] 34)) (w.heap.size + 1) w.heap.size w2.heap.size r #[.int .i64 7, .int .i64 0, .int .i64 0, .int .i64 0, .string ⟨#[]⟩, .int .u64 0, .int .u64 0, .bool false, .bool false, .int .u64 0, .int .u64 0, .int .i64 0, .int .i64 0] #[.int .i64 0, .int .i64 0, .int .i64 0, .int .i64 0, .string ⟨#[]⟩, .int .u64 0, .int .u64 0, .bool false, .bool false, .int .u64 0, .int .u64 0, .int .i64 0, .int .i64 0] := ⟨hk2.alloc _, Blk.alloc hc2 _, Blk.new _ _ _, (hr1.chg hk2 h2g.out).alloc _⟩
 clear hk2 hc2 hr1
 generalize w2.alloc (.cells #[.int .i64 7, .int .i64 0, .int .i64 0, .int .i64 0, .string ⟨#[]⟩, .int .u64 0, .int .u64 0, .bool false, .bool false, .int .u64 0, .int .u64 0, .int .i64 0, .int .i64 0] 34) = w3 at *
 generalize w2.heap.size = b4 at *
 have h4g : ¬ b4 = w.heap.size + 1 := by omega
 have h42 : ¬ b4 = w.heap.size := by omega
 have c0 : w3.cell? ⟨b4, 0, none⟩ = some (.int .i64 7) := hI.b.cell 0
 replace hb4 := Lib.hid hb4
 clear hs1
 go_upto_region 18 with fail
 cases h0 : takeP numP r with
 | none =>
  have R0 := Lib.hid (read_no (z := #[.int .i64 0, .int .i64 0, .int .i64 0, .int .i64 0, .string ⟨#[]⟩, .int .u64 0, .int .u64 0, .bool false, .bool false, .int .u64 0, .int .u64 0, .int .i64 0, .int .i64 0]) (cs := #[.int .i64 7, .int .i64 0, .int .i64 0, .int .i64 0, .string ⟨#[]⟩, .int .u64 0, .int .u64 0, .bool false, .bool false, .int .u64 0, .int .u64 0, .int .i64 0, .int .i64 0]) reads_number hS.out h2g.out h4g hsp' hl' h0)
  go_wp2_with (first
   | (go_at_call 55; (with_reducible refine (R0.out _ hI).mono ?_); rintro e wn ⟨rfl, hkn⟩))
  exact ⟨rfl, by simp only [seqT, h0]; rfl, below_cur hb1.out hkn (by omega)⟩
 | some v0 =>
  obtain ⟨y0, r1⟩ := v0
  obtain ⟨hsp1, hl1⟩ := take_sp h0 hsp' hl'
  have R0 := Lib.hid (read_yes (z := #[.int .i64 0, .int .i64 0, .int .i64 0, .int .i64 0, .string ⟨#[]⟩, .int .u64 0, .int .u64 0, .bool false, .bool false, .int .u64 0, .int .u64 0, .int .i64 0, .int .i64 0]) (cs := #[.int .i64 7, .int .i64 0, .int .i64 0, .int .i64 0, .string ⟨#[]⟩, .int .u64 0, .int .u64 0, .bool false, .bool false, .int .u64 0, .int .u64 0, .int .i64 0, .int .i64 0]) reads_number hS.out h2g.out h4g hsp' hl' h0)
  cases h1 : takeP numP r1 with
  | none =>
   have R1 := Lib.hid (read_no (z := #[.int .i64 0, .int .i64 0, .int .i64 0, .int .i64 0, .string ⟨#[]⟩, .int .u64 0, .int .u64 0, .bool false, .bool false, .int .u64 0, .int .u64 0, .int .i64 0, .int .i64 0]) (cs := #[.int .i64 7, .int .i64 0, .int .i64 0, .int .i64 0, .string ⟨#[]⟩, .int .u64 0, .int .u64 0, .bool false, .bool false, .int .u64 0, .int .u64 0, .int .i64 0, .int .i64 0]) reads_number hS.out h2g.out h4g hsp1 hl1 h1)
   go_wp2_with (first
    | (go_at_call 55; (with_reducible refine (R0.out _ hI).mono ?_); rintro e w4 ⟨rfl, hI1⟩)
    | (go_at_call 55; (with_reducible refine (R1.out _ hI1).mono ?_); rintro e wn ⟨rfl, hkn⟩))
   exact ⟨rfl, by simp only [seqT, h0, h1]; rfl, below_cur hb1.out hkn (by omega)⟩
  | some v1 =>
   obtain ⟨y1, r2⟩ := v1
   obtain ⟨hsp2, hl2⟩ := take_sp h1 hsp1 hl1
   have R1 := Lib.hid (read_yes (z := #[.int .i64 0, .int .i64 0, .int .i64 0, .int .i64 0, .string ⟨#[]⟩, .int .u64 0, .int .u64 0, .bool false, .bool false, .int .u64 0, .int .u64 0, .int .i64 0, .int .i64 0]) (cs := #[.int .i64 7, .int .i64 0, .int .i64 0, .int .i64 0, .string ⟨#[]⟩, .int .u64 0, .int .u64 0, .bool false, .bool false, .int .u64 0, .int .u64 0, .int .i64 0, .int .i64 0]) reads_number hS.out h2g.out h4g hsp1 hl1 h1)
   go_upto_region 26 with (first
    | (go_at_call 55; (with_reducible refine (R0.out _ hI).mono ?_); rintro e w4 ⟨rfl, hI1⟩)
    | (go_at_call 55; (with_reducible refine (R1.out _ hI1).mono ?_); rintro e w5 ⟨rfl, hI2⟩; have d11 := Blk.frozen hI2.b 11; have q11 : w5.cell? ⟨b4, 11, none⟩ = some (.int .i64 0) := Blk.cell hI2.b 11; have d12 := Blk.frozen hI2.b 12; have q12 : w5.cell? ⟨b4, 12, none⟩ = some (.int .i64 0) := Blk.cell hI2.b 12))
   have hJ : AInv w1 ((w5.setCell ⟨b4, 11, none⟩ (.int .i64 y0)).setCell ⟨b4, 12, none⟩ (.int .i64 y1)) (w.heap.size + 1) w.heap.size b4 r2 #[.int .i64 7, .int .i64 0, .int .i64 0, .int .i64 0, .string ⟨#[]⟩, .int .u64 0, .int .u64 0, .bool false, .bool false, .int .u64 0, .int .u64 0, .int .i64 y0, .int .i64 y1] #[.int .i64 0, .int .i64 0, .int .i64 0, .int .i64 0, .string ⟨#[]⟩, .int .u64 0, .int .u64 0, .bool false, .bool false, .int .u64 0, .int .u64 0, .int .i64 0, .int .i64 0] := ((hI2.set h4g h42 hb4.out 11 (.int .i64 y0)).set h4g h42 hb4.out 12 (.int .i64 y1))
   generalize ((w5.setCell ⟨b4, 11, none⟩ (.int .i64 y0)).setCell ⟨b4, 12, none⟩ (.int .i64 y1)) = wz at *
   clear c0 d11 q11 d12 q12 hI hI1 hI2
   cases r2 with
   | cons a t =>
    have k1 : wz.cell? ⟨w.heap.size + 1, 1, none⟩ = some (.bool true) := Blk.cell hJ.c 1
    have MF := Lib.hid must_false
    go_wp2_with (go_at_call 60; (refine (MF.out _).mono ?_); rintro e wn ⟨rfl, rfl⟩)
    exact ⟨rfl, by simp only [seqT, h0, h1]; rfl, below_cur hb1.out hJ.k (by omega)⟩
   | nil =>
    have k1 : wz.cell? ⟨w.heap.size + 1, 1, none⟩ = some (.bool false) := Blk.cell hJ.c 1
    have MT := Lib.hid must_true
    go_wp2_with (first
     | (go_at_call 60; (refine (MT.out _).mono ?_); rintro e wn ⟨rfl, rfl⟩)
     | (with_reducible refine wpList_load_blk rfl 34 (.tmp 4) rfl b4 0 rfl hJ.b [.int .i64 7, .int .i64 0, .int .i64 0, .int .i64 0, .string ⟨#[]⟩, .int .u64 0, .int .u64 0, .bool false, .bool false, .int .u64 0, .int .u64 0, .int .i64 y0, .int .i64 y1] rfl _ Tryz.underlying34 rfl (by kernel_rfl) ?_)
     | (with_reducible refine wpList_store_blk rfl rfl 34 (.tmp 2) (.tmp 95) rfl w.heap.size 0 rfl hJ.r [.int .i64 7, .int .i64 0, .int .i64 0, .int .i64 0, .string ⟨#[]⟩, .int .u64 0, .int .u64 0, .bool false, .bool false, .int .u64 0, .int .u64 0, .int .i64 y0, .int .i64 y1] rfl (Nat.le_of_ble_eq_true (by kernel_rfl)) (by kernel_rfl) rfl ?_; intro wy hBy hcy hzy))
    refine bodyPost_ret (v := .agg #[.int .i64 7, .int .i64 0, .int .i64 0, .int .i64 0, .string ⟨#[]⟩, .int .u64 0, .int .u64 0, .bool false, .bool false, .int .u64 0, .int .u64 0, .int .i64 y0, .int .i64 y1]) (results_cell rfl rfl (loadVar_blk 34 hBy [.int .i64 7, .int .i64 0, .int .i64 0, .int .i64 0, .string ⟨#[]⟩, .int .u64 0, .int .u64 0, .bool false, .bool false, .int .u64 0, .int .u64 0, .int .i64 y0, .int .i64 y1] rfl _ Tryz.underlying34 rfl (by kernel_rfl))) rfl ?_
    exact ⟨by simp only [seqT, h0, h1]; rfl, (below_cur hb1.out hJ.k (by omega)).trans (hcy.below (fun b hb h => by omega) (below_cur hb1.out hJ.k (by omega)).size)⟩
set_option maxRecDepth 100000 in
set_option maxHeartbeats 16000000 in
theorem scr_act8 (l : List UInt8) (wd : List UInt8) (r : List (List UInt8)) (w : World) (hw : Std w) (hL : l.length ≤ 10000) (hp : parts 32 l = wd :: r) (hkd : kindP wd = some 8) :
  Calls Tryz.prog 30 #[.string ⟨l.toArray⟩] w fun e w' => e = actE (argsP 8 r) ∧ Below w.heap.size w w' := by
 rw [args_seq8]
 have hj : restL (wd :: r) = l := by unfold restL; rw [← hp]; exact join_parts 32 l
 have hsp : ∀ x ∈ wd :: r, (32 : UInt8) ∉ x := by rw [← hp]; exact not_mem_parts 32 l
 have hl0 : (restL (wd :: r)).length ≤ 10000 := by rw [hj]; exact hL
 obtain ⟨w1, hw1⟩ : ∃ w1, w1 = (w.alloc (.cells #[.int .i64 0, .int .i64 0, .int .i64 0, .int .i64 0, .string ⟨#[]⟩, .int .u64 0, .int .u64 0, .bool false, .bool false, .int .u64 0, .int .u64 0, .int .i64 0, .int .i64 0] 34)).alloc (.cells #[.string ⟨l.toArray⟩, .bool true] 95) := ⟨_, rfl⟩
 have hb1 : Below w.heap.size w w1 := hw1 ▸ below_alloc (below_alloc (Below.refl _ _) _) _
 have hs1 : w1.heap.size = w.heap.size + 2 := by rw [hw1]; simp
 have hc1 : Cur w1 (w.heap.size + 1) (wd :: r) := by
  unfold Cur
  rw [hj, hw1]
  have := Blk.new (w.alloc (.cells #[.int .i64 0, .int .i64 0, .int .i64 0, .int .i64 0, .string ⟨#[]⟩, .int .u64 0, .int .u64 0, .bool false, .bool false, .int .u64 0, .int .u64 0, .int .i64 0, .int .i64 0] 34)) 95 #[.string ⟨l.toArray⟩, .bool true]
  rw [show (w.alloc (.cells #[.int .i64 0, .int .i64 0, .int .i64 0, .int .i64 0, .string ⟨#[]⟩, .int .u64 0, .int .u64 0, .bool false, .bool false, .int .u64 0, .int .u64 0, .int .i64 0, .int .i64 0] 34)).heap.size = w.heap.size + 1 by simp] at this
  exact this
 have hr1 : Blk w1 w.heap.size 34 #[.int .i64 0, .int .i64 0, .int .i64 0, .int .i64 0, .string ⟨#[]⟩, .int .u64 0, .int .u64 0, .bool false, .bool false, .int .u64 0, .int .u64 0, .int .i64 0, .int .i64 0] := by rw [hw1]; exact (Blk.new w 34 #[.int .i64 0, .int .i64 0, .int .i64 0, .int .i64 0, .string ⟨#[]⟩, .int .u64 0, .int .u64 0, .bool false, .bool false, .int .u64 0, .int .u64 0, .int .i64 0, .int .i64 0]).alloc _
 have hS : ∀ W, Chg (· = w.heap.size + 1) w1 W → Std W := fun W h => hw.below (below_cur hb1 h (by omega))
 have KK := reads_kind (w.heap.size + 1) (wd :: r) w1 (hw.below hb1) hc1 hsp hl0 hS
 have ht : takeP kindP (wd :: r) = some (8, r) := by show (kindP wd).map (fun v => (v, r)) = _; rw [hkd]; rfl
 have hsp' := (take_sp ht hsp hl0).1
 have hl' := (take_sp ht hsp hl0).2
 simp only [ht] at KK
 replace KK := Lib.hid (show Calls Tryz.prog 54 #[.pointer (some ⟨w.heap.size + 1, 0, none⟩)] w1 fun e w' => Chg (· = w.heap.size + 1) w1 w' ∧ e = .returned (.int .i64 8) ∧ Cur w' (w.heap.size + 1) r from KK)
 replace hS := Lib.hid hS
 clear ht hsp hl0 hkd hc1
 replace hp := Lib.hid hp
 replace hj := Lib.hid hj
 replace hL := Lib.hid hL
 go_enter Tryz.func30, Tryz.ntmps30
 go_upto_region 2 with fail
 rw [← hw1]
 clear hw1
 have h2g : ¬ w.heap.size = w.heap.size + 1 := by omega
 replace hb1 := Lib.hid hb1
 replace h2g := Lib.hid h2g
 go_upto_region 3 with (go_at_call 54; (refine KK.out.mono ?_); rintro e w2 ⟨hk2, rfl, hc2⟩)
 have hb4 : w1.heap.size ≤ w2.heap.size := hk2.size
 have hI : AInv w1 (w2.alloc (.cells #[.int .i64 8, .int .i64 0, .int .i64 0, .int .i64 0, .string ⟨#[]⟩, .int .u64 0, .int .u64 0, .bool false, .bool false, .int .u64 0, .int .u64 0, .int .i64 0, .int .i64 0] 34)) (w.heap.size + 1) w.heap.size w2.heap.size r #[.int .i64 8, .int .i64 0, .int .i64 0, .int .i64 0, .string ⟨#[]⟩, .int .u64 0, .int .u64 0, .bool false, .bool false, .int .u64 0, .int .u64 0, .int .i64 0, .int .i64 0] #[.int .i64 0, .int .i64 0, .int .i64 0, .int .i64 0, .string ⟨#[]⟩, .int .u64 0, .int .u64 0, .bool false, .bool false, .int .u64 0, .int .u64 0, .int .i64 0, .int .i64 0] := ⟨hk2.alloc _, Blk.alloc hc2 _, Blk.new _ _ _, (hr1.chg hk2 h2g.out).alloc _⟩
 clear hk2 hc2 hr1
 generalize w2.alloc (.cells #[.int .i64 8, .int .i64 0, .int .i64 0, .int .i64 0, .string ⟨#[]⟩, .int .u64 0, .int .u64 0, .bool false, .bool false, .int .u64 0, .int .u64 0, .int .i64 0, .int .i64 0] 34) = w3 at *
 generalize w2.heap.size = b4 at *
 have h4g : ¬ b4 = w.heap.size + 1 := by omega
 have h42 : ¬ b4 = w.heap.size := by omega
 have c0 : w3.cell? ⟨b4, 0, none⟩ = some (.int .i64 8) := hI.b.cell 0
 replace hb4 := Lib.hid hb4
 clear hs1
 go_upto_region 20 with fail
 cases h0 : takeP onP r with
 | none =>
  have R0 := Lib.hid (read_no (z := #[.int .i64 0, .int .i64 0, .int .i64 0, .int .i64 0, .string ⟨#[]⟩, .int .u64 0, .int .u64 0, .bool false, .bool false, .int .u64 0, .int .u64 0, .int .i64 0, .int .i64 0]) (cs := #[.int .i64 8, .int .i64 0, .int .i64 0, .int .i64 0, .string ⟨#[]⟩, .int .u64 0, .int .u64 0, .bool false, .bool false, .int .u64 0, .int .u64 0, .int .i64 0, .int .i64 0]) reads_on hS.out h2g.out h4g hsp' hl' h0)
  go_wp2_with (first
   | (go_at_call 59; (with_reducible refine (R0.out _ hI).mono ?_); rintro e wn ⟨rfl, hkn⟩))
  exact ⟨rfl, by simp only [seqT, h0]; rfl, below_cur hb1.out hkn (by omega)⟩
 | some v0 =>
  obtain ⟨y0, r1⟩ := v0
  obtain ⟨hsp1, hl1⟩ := take_sp h0 hsp' hl'
  have R0 := Lib.hid (read_yes (z := #[.int .i64 0, .int .i64 0, .int .i64 0, .int .i64 0, .string ⟨#[]⟩, .int .u64 0, .int .u64 0, .bool false, .bool false, .int .u64 0, .int .u64 0, .int .i64 0, .int .i64 0]) (cs := #[.int .i64 8, .int .i64 0, .int .i64 0, .int .i64 0, .string ⟨#[]⟩, .int .u64 0, .int .u64 0, .bool false, .bool false, .int .u64 0, .int .u64 0, .int .i64 0, .int .i64 0]) reads_on hS.out h2g.out h4g hsp' hl' h0)
  go_upto_region 26 with (first
   | (go_at_call 59; (with_reducible refine (R0.out _ hI).mono ?_); rintro e w4 ⟨rfl, hI1⟩; have d7 := Blk.frozen hI1.b 7; have q7 : w4.cell? ⟨b4, 7, none⟩ = some (.bool false) := Blk.cell hI1.b 7))
  have hJ : AInv w1 (w4.setCell ⟨b4, 7, none⟩ (.bool y0)) (w.heap.size + 1) w.heap.size b4 r1 #[.int .i64 8, .int .i64 0, .int .i64 0, .int .i64 0, .string ⟨#[]⟩, .int .u64 0, .int .u64 0, .bool y0, .bool false, .int .u64 0, .int .u64 0, .int .i64 0, .int .i64 0] #[.int .i64 0, .int .i64 0, .int .i64 0, .int .i64 0, .string ⟨#[]⟩, .int .u64 0, .int .u64 0, .bool false, .bool false, .int .u64 0, .int .u64 0, .int .i64 0, .int .i64 0] := (hI1.set h4g h42 hb4.out 7 (.bool y0))
  generalize (w4.setCell ⟨b4, 7, none⟩ (.bool y0)) = wz at *
  clear c0 d7 q7 hI hI1
  cases r1 with
  | cons a t =>
   have k1 : wz.cell? ⟨w.heap.size + 1, 1, none⟩ = some (.bool true) := Blk.cell hJ.c 1
   have MF := Lib.hid must_false
   go_wp2_with (go_at_call 60; (refine (MF.out _).mono ?_); rintro e wn ⟨rfl, rfl⟩)
   exact ⟨rfl, by simp only [seqT, h0]; rfl, below_cur hb1.out hJ.k (by omega)⟩
  | nil =>
   have k1 : wz.cell? ⟨w.heap.size + 1, 1, none⟩ = some (.bool false) := Blk.cell hJ.c 1
   have MT := Lib.hid must_true
   go_wp2_with (first
    | (go_at_call 60; (refine (MT.out _).mono ?_); rintro e wn ⟨rfl, rfl⟩)
    | (with_reducible refine wpList_load_blk rfl 34 (.tmp 4) rfl b4 0 rfl hJ.b [.int .i64 8, .int .i64 0, .int .i64 0, .int .i64 0, .string ⟨#[]⟩, .int .u64 0, .int .u64 0, .bool y0, .bool false, .int .u64 0, .int .u64 0, .int .i64 0, .int .i64 0] rfl _ Tryz.underlying34 rfl (by kernel_rfl) ?_)
    | (with_reducible refine wpList_store_blk rfl rfl 34 (.tmp 2) (.tmp 95) rfl w.heap.size 0 rfl hJ.r [.int .i64 8, .int .i64 0, .int .i64 0, .int .i64 0, .string ⟨#[]⟩, .int .u64 0, .int .u64 0, .bool y0, .bool false, .int .u64 0, .int .u64 0, .int .i64 0, .int .i64 0] rfl (Nat.le_of_ble_eq_true (by kernel_rfl)) (by kernel_rfl) rfl ?_; intro wy hBy hcy hzy))
   refine bodyPost_ret (v := .agg #[.int .i64 8, .int .i64 0, .int .i64 0, .int .i64 0, .string ⟨#[]⟩, .int .u64 0, .int .u64 0, .bool y0, .bool false, .int .u64 0, .int .u64 0, .int .i64 0, .int .i64 0]) (results_cell rfl rfl (loadVar_blk 34 hBy [.int .i64 8, .int .i64 0, .int .i64 0, .int .i64 0, .string ⟨#[]⟩, .int .u64 0, .int .u64 0, .bool y0, .bool false, .int .u64 0, .int .u64 0, .int .i64 0, .int .i64 0] rfl _ Tryz.underlying34 rfl (by kernel_rfl))) rfl ?_
   exact ⟨by simp only [seqT, h0]; rfl, (below_cur hb1.out hJ.k (by omega)).trans (hcy.below (fun b hb h => by omega) (below_cur hb1.out hJ.k (by omega)).size)⟩
set_option maxRecDepth 100000 in
set_option maxHeartbeats 16000000 in
theorem scr_act9 (l : List UInt8) (wd : List UInt8) (r : List (List UInt8)) (w : World) (hw : Std w) (hL : l.length ≤ 10000) (hp : parts 32 l = wd :: r) (hkd : kindP wd = some 9) :
  Calls Tryz.prog 30 #[.string ⟨l.toArray⟩] w fun e w' => e = actE (argsP 9 r) ∧ Below w.heap.size w w' := by
 rw [args_seq9]
 have hj : restL (wd :: r) = l := by unfold restL; rw [← hp]; exact join_parts 32 l
 have hsp : ∀ x ∈ wd :: r, (32 : UInt8) ∉ x := by rw [← hp]; exact not_mem_parts 32 l
 have hl0 : (restL (wd :: r)).length ≤ 10000 := by rw [hj]; exact hL
 obtain ⟨w1, hw1⟩ : ∃ w1, w1 = (w.alloc (.cells #[.int .i64 0, .int .i64 0, .int .i64 0, .int .i64 0, .string ⟨#[]⟩, .int .u64 0, .int .u64 0, .bool false, .bool false, .int .u64 0, .int .u64 0, .int .i64 0, .int .i64 0] 34)).alloc (.cells #[.string ⟨l.toArray⟩, .bool true] 95) := ⟨_, rfl⟩
 have hb1 : Below w.heap.size w w1 := hw1 ▸ below_alloc (below_alloc (Below.refl _ _) _) _
 have hs1 : w1.heap.size = w.heap.size + 2 := by rw [hw1]; simp
 have hc1 : Cur w1 (w.heap.size + 1) (wd :: r) := by
  unfold Cur
  rw [hj, hw1]
  have := Blk.new (w.alloc (.cells #[.int .i64 0, .int .i64 0, .int .i64 0, .int .i64 0, .string ⟨#[]⟩, .int .u64 0, .int .u64 0, .bool false, .bool false, .int .u64 0, .int .u64 0, .int .i64 0, .int .i64 0] 34)) 95 #[.string ⟨l.toArray⟩, .bool true]
  rw [show (w.alloc (.cells #[.int .i64 0, .int .i64 0, .int .i64 0, .int .i64 0, .string ⟨#[]⟩, .int .u64 0, .int .u64 0, .bool false, .bool false, .int .u64 0, .int .u64 0, .int .i64 0, .int .i64 0] 34)).heap.size = w.heap.size + 1 by simp] at this
  exact this
 have hr1 : Blk w1 w.heap.size 34 #[.int .i64 0, .int .i64 0, .int .i64 0, .int .i64 0, .string ⟨#[]⟩, .int .u64 0, .int .u64 0, .bool false, .bool false, .int .u64 0, .int .u64 0, .int .i64 0, .int .i64 0] := by rw [hw1]; exact (Blk.new w 34 #[.int .i64 0, .int .i64 0, .int .i64 0, .int .i64 0, .string ⟨#[]⟩, .int .u64 0, .int .u64 0, .bool false, .bool false, .int .u64 0, .int .u64 0, .int .i64 0, .int .i64 0]).alloc _
 have hS : ∀ W, Chg (· = w.heap.size + 1) w1 W → Std W := fun W h => hw.below (below_cur hb1 h (by omega))
 have KK := reads_kind (w.heap.size + 1) (wd :: r) w1 (hw.below hb1) hc1 hsp hl0 hS
 have ht : takeP kindP (wd :: r) = some (9, r) := by show (kindP wd).map (fun v => (v, r)) = _; rw [hkd]; rfl
 have hsp' := (take_sp ht hsp hl0).1
 have hl' := (take_sp ht hsp hl0).2
 simp only [ht] at KK
 replace KK := Lib.hid (show Calls Tryz.prog 54 #[.pointer (some ⟨w.heap.size + 1, 0, none⟩)] w1 fun e w' => Chg (· = w.heap.size + 1) w1 w' ∧ e = .returned (.int .i64 9) ∧ Cur w' (w.heap.size + 1) r from KK)
 replace hS := Lib.hid hS
 clear ht hsp hl0 hkd hc1
 replace hp := Lib.hid hp
 replace hj := Lib.hid hj
 replace hL := Lib.hid hL
 go_enter Tryz.func30, Tryz.ntmps30
 go_upto_region 2 with fail
 rw [← hw1]
 clear hw1
 have h2g : ¬ w.heap.size = w.heap.size + 1 := by omega
 replace hb1 := Lib.hid hb1
 replace h2g := Lib.hid h2g
 go_upto_region 3 with (go_at_call 54; (refine KK.out.mono ?_); rintro e w2 ⟨hk2, rfl, hc2⟩)
 have hb4 : w1.heap.size ≤ w2.heap.size := hk2.size
 have hI : AInv w1 (w2.alloc (.cells #[.int .i64 9, .int .i64 0, .int .i64 0, .int .i64 0, .string ⟨#[]⟩, .int .u64 0, .int .u64 0, .bool false, .bool false, .int .u64 0, .int .u64 0, .int .i64 0, .int .i64 0] 34)) (w.heap.size + 1) w.heap.size w2.heap.size r #[.int .i64 9, .int .i64 0, .int .i64 0, .int .i64 0, .string ⟨#[]⟩, .int .u64 0, .int .u64 0, .bool false, .bool false, .int .u64 0, .int .u64 0, .int .i64 0, .int .i64 0] #[.int .i64 0, .int .i64 0, .int .i64 0, .int .i64 0, .string ⟨#[]⟩, .int .u64 0, .int .u64 0, .bool false, .bool false, .int .u64 0, .int .u64 0, .int .i64 0, .int .i64 0] := ⟨hk2.alloc _, Blk.alloc hc2 _, Blk.new _ _ _, (hr1.chg hk2 h2g.out).alloc _⟩
 clear hk2 hc2 hr1
 generalize w2.alloc (.cells #[.int .i64 9, .int .i64 0, .int .i64 0, .int .i64 0, .string ⟨#[]⟩, .int .u64 0, .int .u64 0, .bool false, .bool false, .int .u64 0, .int .u64 0, .int .i64 0, .int .i64 0] 34) = w3 at *
 generalize w2.heap.size = b4 at *
 have h4g : ¬ b4 = w.heap.size + 1 := by omega
 have h42 : ¬ b4 = w.heap.size := by omega
 have c0 : w3.cell? ⟨b4, 0, none⟩ = some (.int .i64 9) := hI.b.cell 0
 replace hb4 := Lib.hid hb4
 clear hs1
 go_upto_region 23 with fail
 cases h0 : takeP numP r with
 | none =>
  have R0 := Lib.hid (read_no (z := #[.int .i64 0, .int .i64 0, .int .i64 0, .int .i64 0, .string ⟨#[]⟩, .int .u64 0, .int .u64 0, .bool false, .bool false, .int .u64 0, .int .u64 0, .int .i64 0, .int .i64 0]) (cs := #[.int .i64 9, .int .i64 0, .int .i64 0, .int .i64 0, .string ⟨#[]⟩, .int .u64 0, .int .u64 0, .bool false, .bool false, .int .u64 0, .int .u64 0, .int .i64 0, .int .i64 0]) reads_number hS.out h2g.out h4g hsp' hl' h0)
  go_wp2_with (first
   | (go_at_call 55; (with_reducible refine (R0.out _ hI).mono ?_); rintro e wn ⟨rfl, hkn⟩))
  exact ⟨rfl, by simp only [seqT, h0]; rfl, below_cur hb1.out hkn (by omega)⟩
 | some v0 =>
  obtain ⟨y0, r1⟩ := v0
  obtain ⟨hsp1, hl1⟩ := take_sp h0 hsp' hl'
  have R0 := Lib.hid (read_yes (z := #[.int .i64 0, .int .i64 0, .int .i64 0, .int .i64 0, .string ⟨#[]⟩, .int .u64 0, .int .u64 0, .bool false, .bool false, .int .u64 0, .int .u64 0, .int .i64 0, .int .i64 0]) (cs := #[.int .i64 9, .int .i64 0, .int .i64 0, .int .i64 0, .string ⟨#[]⟩, .int .u64 0, .int .u64 0, .bool false, .bool false, .int .u64 0, .int .u64 0, .int .i64 0, .int .i64 0]) reads_number hS.out h2g.out h4g hsp' hl' h0)
  go_upto_region 26 with (first
   | (go_at_call 55; (with_reducible refine (R0.out _ hI).mono ?_); rintro e w4 ⟨rfl, hI1⟩; have d1 := Blk.frozen hI1.b 1; have q1 : w4.cell? ⟨b4, 1, none⟩ = some (.int .i64 0) := Blk.cell hI1.b 1))
  have hJ : AInv w1 (w4.setCell ⟨b4, 1, none⟩ (.int .i64 y0)) (w.heap.size + 1) w.heap.size b4 r1 #[.int .i64 9, .int .i64 y0, .int .i64 0, .int .i64 0, .string ⟨#[]⟩, .int .u64 0, .int .u64 0, .bool false, .bool false, .int .u64 0, .int .u64 0, .int .i64 0, .int .i64 0] #[.int .i64 0, .int .i64 0, .int .i64 0, .int .i64 0, .string ⟨#[]⟩, .int .u64 0, .int .u64 0, .bool false, .bool false, .int .u64 0, .int .u64 0, .int .i64 0, .int .i64 0] := (hI1.set h4g h42 hb4.out 1 (.int .i64 y0))
  generalize (w4.setCell ⟨b4, 1, none⟩ (.int .i64 y0)) = wz at *
  clear c0 d1 q1 hI hI1
  cases r1 with
  | cons a t =>
   have k1 : wz.cell? ⟨w.heap.size + 1, 1, none⟩ = some (.bool true) := Blk.cell hJ.c 1
   have MF := Lib.hid must_false
   go_wp2_with (go_at_call 60; (refine (MF.out _).mono ?_); rintro e wn ⟨rfl, rfl⟩)
   exact ⟨rfl, by simp only [seqT, h0]; rfl, below_cur hb1.out hJ.k (by omega)⟩
  | nil =>
   have k1 : wz.cell? ⟨w.heap.size + 1, 1, none⟩ = some (.bool false) := Blk.cell hJ.c 1
   have MT := Lib.hid must_true
   go_wp2_with (first
    | (go_at_call 60; (refine (MT.out _).mono ?_); rintro e wn ⟨rfl, rfl⟩)
    | (with_reducible refine wpList_load_blk rfl 34 (.tmp 4) rfl b4 0 rfl hJ.b [.int .i64 9, .int .i64 y0, .int .i64 0, .int .i64 0, .string ⟨#[]⟩, .int .u64 0, .int .u64 0, .bool false, .bool false, .int .u64 0, .int .u64 0, .int .i64 0, .int .i64 0] rfl _ Tryz.underlying34 rfl (by kernel_rfl) ?_)
    | (with_reducible refine wpList_store_blk rfl rfl 34 (.tmp 2) (.tmp 95) rfl w.heap.size 0 rfl hJ.r [.int .i64 9, .int .i64 y0, .int .i64 0, .int .i64 0, .string ⟨#[]⟩, .int .u64 0, .int .u64 0, .bool false, .bool false, .int .u64 0, .int .u64 0, .int .i64 0, .int .i64 0] rfl (Nat.le_of_ble_eq_true (by kernel_rfl)) (by kernel_rfl) rfl ?_; intro wy hBy hcy hzy))
   refine bodyPost_ret (v := .agg #[.int .i64 9, .int .i64 y0, .int .i64 0, .int .i64 0, .string ⟨#[]⟩, .int .u64 0, .int .u64 0, .bool false, .bool false, .int .u64 0, .int .u64 0, .int .i64 0, .int .i64 0]) (results_cell rfl rfl (loadVar_blk 34 hBy [.int .i64 9, .int .i64 y0, .int .i64 0, .int .i64 0, .string ⟨#[]⟩, .int .u64 0, .int .u64 0, .bool false, .bool false, .int .u64 0, .int .u64 0, .int .i64 0, .int .i64 0] rfl _ Tryz.underlying34 rfl (by kernel_rfl))) rfl ?_
   exact ⟨by simp only [seqT, h0]; rfl, (below_cur hb1.out hJ.k (by omega)).trans (hcy.below (fun b hb h => by omega) (below_cur hb1.out hJ.k (by omega)).size)⟩
set_option maxRecDepth 100000 in
set_option maxHeartbeats 16000000 in
theorem scr_act10 (l : List UInt8) (wd : List UInt8) (r : List (List UInt8)) (w : World) (hw : Std w) (hL : l.length ≤ 10000) (hp : parts 32 l = wd :: r) (hkd : kindP wd = some 10) :
  Calls Tryz.prog 30 #[.string ⟨l.toArray⟩] w fun e w' => e = actE (argsP 10 r) ∧ Below w.heap.size w w' := by
 rw [args_seq10]
 have hj : restL (wd :: r) = l := by unfold restL; rw [← hp]; exact join_parts 32 l
 have hsp : ∀ x ∈ wd :: r, (32 : UInt8) ∉ x := by rw [← hp]; exact not_mem_parts 32 l
 have hl0 : (restL (wd :: r)).length ≤ 10000 := by rw [hj]; exact hL
 obtain ⟨w1, hw1⟩ : ∃ w1, w1 = (w.alloc (.cells #[.int .i64 0, .int .i64 0, .int .i64 0, .int .i64 0, .string ⟨#[]⟩, .int .u64 0, .int .u64 0, .bool false, .bool false, .int .u64 0, .int .u64 0, .int .i64 0, .int .i64 0] 34)).alloc (.cells #[.string ⟨l.toArray⟩, .bool true] 95) := ⟨_, rfl⟩
 have hb1 : Below w.heap.size w w1 := hw1 ▸ below_alloc (below_alloc (Below.refl _ _) _) _
 have hs1 : w1.heap.size = w.heap.size + 2 := by rw [hw1]; simp
 have hc1 : Cur w1 (w.heap.size + 1) (wd :: r) := by
  unfold Cur
  rw [hj, hw1]
  have := Blk.new (w.alloc (.cells #[.int .i64 0, .int .i64 0, .int .i64 0, .int .i64 0, .string ⟨#[]⟩, .int .u64 0, .int .u64 0, .bool false, .bool false, .int .u64 0, .int .u64 0, .int .i64 0, .int .i64 0] 34)) 95 #[.string ⟨l.toArray⟩, .bool true]
  rw [show (w.alloc (.cells #[.int .i64 0, .int .i64 0, .int .i64 0, .int .i64 0, .string ⟨#[]⟩, .int .u64 0, .int .u64 0, .bool false, .bool false, .int .u64 0, .int .u64 0, .int .i64 0, .int .i64 0] 34)).heap.size = w.heap.size + 1 by simp] at this
  exact this
 have hr1 : Blk w1 w.heap.size 34 #[.int .i64 0, .int .i64 0, .int .i64 0, .int .i64 0, .string ⟨#[]⟩, .int .u64 0, .int .u64 0, .bool false, .bool false, .int .u64 0, .int .u64 0, .int .i64 0, .int .i64 0] := by rw [hw1]; exact (Blk.new w 34 #[.int .i64 0, .int .i64 0, .int .i64 0, .int .i64 0, .string ⟨#[]⟩, .int .u64 0, .int .u64 0, .bool false, .bool false, .int .u64 0, .int .u64 0, .int .i64 0, .int .i64 0]).alloc _
 have hS : ∀ W, Chg (· = w.heap.size + 1) w1 W → Std W := fun W h => hw.below (below_cur hb1 h (by omega))
 have KK := reads_kind (w.heap.size + 1) (wd :: r) w1 (hw.below hb1) hc1 hsp hl0 hS
 have ht : takeP kindP (wd :: r) = some (10, r) := by show (kindP wd).map (fun v => (v, r)) = _; rw [hkd]; rfl
 have hsp' := (take_sp ht hsp hl0).1
 have hl' := (take_sp ht hsp hl0).2
 simp only [ht] at KK
 replace KK := Lib.hid (show Calls Tryz.prog 54 #[.pointer (some ⟨w.heap.size + 1, 0, none⟩)] w1 fun e w' => Chg (· = w.heap.size + 1) w1 w' ∧ e = .returned (.int .i64 10) ∧ Cur w' (w.heap.size + 1) r from KK)
 replace hS := Lib.hid hS
 clear ht hsp hl0 hkd hc1
 replace hp := Lib.hid hp
 replace hj := Lib.hid hj
 replace hL := Lib.hid hL
 go_enter Tryz.func30, Tryz.ntmps30
 go_upto_region 2 with fail
 rw [← hw1]
 clear hw1
 have h2g : ¬ w.heap.size = w.heap.size + 1 := by omega
 replace hb1 := Lib.hid hb1
 replace h2g := Lib.hid h2g
 go_upto_region 3 with (go_at_call 54; (refine KK.out.mono ?_); rintro e w2 ⟨hk2, rfl, hc2⟩)
 have hb4 : w1.heap.size ≤ w2.heap.size := hk2.size
 have hI : AInv w1 (w2.alloc (.cells #[.int .i64 10, .int .i64 0, .int .i64 0, .int .i64 0, .string ⟨#[]⟩, .int .u64 0, .int .u64 0, .bool false, .bool false, .int .u64 0, .int .u64 0, .int .i64 0, .int .i64 0] 34)) (w.heap.size + 1) w.heap.size w2.heap.size r #[.int .i64 10, .int .i64 0, .int .i64 0, .int .i64 0, .string ⟨#[]⟩, .int .u64 0, .int .u64 0, .bool false, .bool false, .int .u64 0, .int .u64 0, .int .i64 0, .int .i64 0] #[.int .i64 0, .int .i64 0, .int .i64 0, .int .i64 0, .string ⟨#[]⟩, .int .u64 0, .int .u64 0, .bool false, .bool false, .int .u64 0, .int .u64 0, .int .i64 0, .int .i64 0] := ⟨hk2.alloc _, Blk.alloc hc2 _, Blk.new _ _ _, (hr1.chg hk2 h2g.out).alloc _⟩
 clear hk2 hc2 hr1
 generalize w2.alloc (.cells #[.int .i64 10, .int .i64 0, .int .i64 0, .int .i64 0, .string ⟨#[]⟩, .int .u64 0, .int .u64 0, .bool false, .bool false, .int .u64 0, .int .u64 0, .int .i64 0, .int .i64 0] 34) = w3 at *
 generalize w2.heap.size = b4 at *
 have h4g : ¬ b4 = w.heap.size + 1 := by omega
 have h42 : ¬ b4 = w.heap.size := by omega
 have c0 : w3.cell? ⟨b4, 0, none⟩ = some (.int .i64 10) := hI.b.cell 0
 replace hb4 := Lib.hid hb4
 clear hs1
 go_upto_region 23 with fail
 cases h0 : takeP numP r with
 | none =>
  have R0 := Lib.hid (read_no (z := #[.int .i64 0, .int .i64 0, .int .i64 0, .int .i64 0, .string ⟨#[]⟩, .int .u64 0, .int .u64 0, .bool false, .bool false, .int .u64 0, .int .u64 0, .int .i64 0, .int .i64 0]) (cs := #[.int .i64 10, .int .i64 0, .int .i64 0, .int .i64 0, .string ⟨#[]⟩, .int .u64 0, .int .u64 0, .bool false, .bool false, .int .u64 0, .int .u64 0, .int .i64 0, .int .i64 0]) reads_number hS.out h2g.out h4g hsp' hl' h0)
  go_wp2_with (first
   | (go_at_call 55; (with_reducible refine (R0.out _ hI).mono ?_); rintro e wn ⟨rfl, hkn⟩))
  exact ⟨rfl, by simp only [seqT, h0]; rfl, below_cur hb1.out hkn (by omega)⟩
 | some v0 =>
  obtain ⟨y0, r1⟩ := v0
  obtain ⟨hsp1, hl1⟩ := take_sp h0 hsp' hl'
  have R0 := Lib.hid (read_yes (z := #[.int .i64 0, .int .i64 0, .int .i64 0, .int .i64 0, .string ⟨#[]⟩, .int .u64 0, .int .u64 0, .bool false, .bool false, .int .u64 0, .int .u64 0, .int .i64 0, .int .i64 0]) (cs := #[.int .i64 10, .int .i64 0, .int .i64 0, .int .i64 0, .string ⟨#[]⟩, .int .u64 0, .int .u64 0, .bool false, .bool false, .int .u64 0, .int .u64 0, .int .i64 0, .int .i64 0]) reads_number hS.out h2g.out h4g hsp' hl' h0)
  go_upto_region 26 with (first
   | (go_at_call 55; (with_reducible refine (R0.out _ hI).mono ?_); rintro e w4 ⟨rfl, hI1⟩; have d1 := Blk.frozen hI1.b 1; have q1 : w4.cell? ⟨b4, 1, none⟩ = some (.int .i64 0) := Blk.cell hI1.b 1))
  have hJ : AInv w1 (w4.setCell ⟨b4, 1, none⟩ (.int .i64 y0)) (w.heap.size + 1) w.heap.size b4 r1 #[.int .i64 10, .int .i64 y0, .int .i64 0, .int .i64 0, .string ⟨#[]⟩, .int .u64 0, .int .u64 0, .bool false, .bool false, .int .u64 0, .int .u64 0, .int .i64 0, .int .i64 0] #[.int .i64 0, .int .i64 0, .int .i64 0, .int .i64 0, .string ⟨#[]⟩, .int .u64 0, .int .u64 0, .bool false, .bool false, .int .u64 0, .int .u64 0, .int .i64 0, .int .i64 0] := (hI1.set h4g h42 hb4.out 1 (.int .i64 y0))
  generalize (w4.setCell ⟨b4, 1, none⟩ (.int .i64 y0)) = wz at *
  clear c0 d1 q1 hI hI1
  cases r1 with
  | cons a t =>
   have k1 : wz.cell? ⟨w.heap.size + 1, 1, none⟩ = some (.bool true) := Blk.cell hJ.c 1
   have MF := Lib.hid must_false
   go_wp2_with (go_at_call 60; (refine (MF.out _).mono ?_); rintro e wn ⟨rfl, rfl⟩)
   exact ⟨rfl, by simp only [seqT, h0]; rfl, below_cur hb1.out hJ.k (by omega)⟩
  | nil =>
   have k1 : wz.cell? ⟨w.heap.size + 1, 1, none⟩ = some (.bool false) := Blk.cell hJ.c 1
   have MT := Lib.hid must_true
   go_wp2_with (first
    | (go_at_call 60; (refine (MT.out _).mono ?_); rintro e wn ⟨rfl, rfl⟩)
    | (with_reducible refine wpList_load_blk rfl 34 (.tmp 4) rfl b4 0 rfl hJ.b [.int .i64 10, .int .i64 y0, .int .i64 0, .int .i64 0, .string ⟨#[]⟩, .int .u64 0, .int .u64 0, .bool false, .bool false, .int .u64 0, .int .u64 0, .int .i64 0, .int .i64 0] rfl _ Tryz.underlying34 rfl (by kernel_rfl) ?_)
    | (with_reducible refine wpList_store_blk rfl rfl 34 (.tmp 2) (.tmp 95) rfl w.heap.size 0 rfl hJ.r [.int .i64 10, .int .i64 y0, .int .i64 0, .int .i64 0, .string ⟨#[]⟩, .int .u64 0, .int .u64 0, .bool false, .bool false, .int .u64 0, .int .u64 0, .int .i64 0, .int .i64 0] rfl (Nat.le_of_ble_eq_true (by kernel_rfl)) (by kernel_rfl) rfl ?_; intro wy hBy hcy hzy))
   refine bodyPost_ret (v := .agg #[.int .i64 10, .int .i64 y0, .int .i64 0, .int .i64 0, .string ⟨#[]⟩, .int .u64 0, .int .u64 0, .bool false, .bool false, .int .u64 0, .int .u64 0, .int .i64 0, .int .i64 0]) (results_cell rfl rfl (loadVar_blk 34 hBy [.int .i64 10, .int .i64 y0, .int .i64 0, .int .i64 0, .string ⟨#[]⟩, .int .u64 0, .int .u64 0, .bool false, .bool false, .int .u64 0, .int .u64 0, .int .i64 0, .int .i64 0] rfl _ Tryz.underlying34 rfl (by kernel_rfl))) rfl ?_
   exact ⟨by simp only [seqT, h0]; rfl, (below_cur hb1.out hJ.k (by omega)).trans (hcy.below (fun b hb h => by omega) (below_cur hb1.out hJ.k (by omega)).size)⟩
set_option maxRecDepth 100000 in
set_option maxHeartbeats 16000000 in
theorem scr_act11 (l : List UInt8) (wd : List UInt8) (r : List (List UInt8)) (w : World) (hw : Std w) (hL : l.length ≤ 10000) (hp : parts 32 l = wd :: r) (hkd : kindP wd = some 11) :
  Calls Tryz.prog 30 #[.string ⟨l.toArray⟩] w fun e w' => e = actE (argsP 11 r) ∧ Below w.heap.size w w' := by
 rw [args_seq11]
 have hj : restL (wd :: r) = l := by unfold restL; rw [← hp]; exact join_parts 32 l
 have hsp : ∀ x ∈ wd :: r, (32 : UInt8) ∉ x := by rw [← hp]; exact not_mem_parts 32 l
 have hl0 : (restL (wd :: r)).length ≤ 10000 := by rw [hj]; exact hL
 obtain ⟨w1, hw1⟩ : ∃ w1, w1 = (w.alloc (.cells #[.int .i64 0, .int .i64 0, .int .i64 0, .int .i64 0, .string ⟨#[]⟩, .int .u64 0, .int .u64 0, .bool false, .bool false, .int .u64 0, .int .u64 0, .int .i64 0, .int .i64 0] 34)).alloc (.cells #[.string ⟨l.toArray⟩, .bool true] 95) := ⟨_, rfl⟩
 have hb1 : Below w.heap.size w w1 := hw1 ▸ below_alloc (below_alloc (Below.refl _ _) _) _
 have hs1 : w1.heap.size = w.heap.size + 2 := by rw [hw1]; simp
 have hc1 : Cur w1 (w.heap.size + 1) (wd :: r) := by
  unfold Cur
  rw [hj, hw1]
  have := Blk.new (w.alloc (.cells #[.int .i64 0, .int .i64 0, .int .i64 0, .int .i64 0, .string ⟨#[]⟩, .int .u64 0, .int .u64 0, .bool false, .bool false, .int .u64 0, .int .u64 0, .int .i64 0, .int .i64 0] 34)) 95 #[.string ⟨l.toArray⟩, .bool true]
  rw [show (w.alloc (.cells #[.int .i64 0, .int .i64 0, .int .i64 0, .int .i64 0, .string ⟨#[]⟩, .int .u64 0, .int .u64 0, .bool false, .bool false, .int .u64 0, .int .u64 0, .int .i64 0, .int .i64 0] 34)).heap.size = w.heap.size + 1 by simp] at this
  exact this
 have hr1 : Blk w1 w.heap.size 34 #[.int .i64 0, .int .i64 0, .int .i64 0, .int .i64 0, .string ⟨#[]⟩, .int .u64 0, .int .u64 0, .bool false, .bool false, .int .u64 0, .int .u64 0, .int .i64 0, .int .i64 0] := by rw [hw1]; exact (Blk.new w 34 #[.int .i64 0, .int .i64 0, .int .i64 0, .int .i64 0, .string ⟨#[]⟩, .int .u64 0, .int .u64 0, .bool false, .bool false, .int .u64 0, .int .u64 0, .int .i64 0, .int .i64 0]).alloc _
 have hS : ∀ W, Chg (· = w.heap.size + 1) w1 W → Std W := fun W h => hw.below (below_cur hb1 h (by omega))
 have KK := reads_kind (w.heap.size + 1) (wd :: r) w1 (hw.below hb1) hc1 hsp hl0 hS
 have ht : takeP kindP (wd :: r) = some (11, r) := by show (kindP wd).map (fun v => (v, r)) = _; rw [hkd]; rfl
 have hsp' := (take_sp ht hsp hl0).1
 have hl' := (take_sp ht hsp hl0).2
 simp only [ht] at KK
 replace KK := Lib.hid (show Calls Tryz.prog 54 #[.pointer (some ⟨w.heap.size + 1, 0, none⟩)] w1 fun e w' => Chg (· = w.heap.size + 1) w1 w' ∧ e = .returned (.int .i64 11) ∧ Cur w' (w.heap.size + 1) r from KK)
 replace hS := Lib.hid hS
 clear ht hsp hl0 hkd hc1
 replace hp := Lib.hid hp
 replace hj := Lib.hid hj
 replace hL := Lib.hid hL
 go_enter Tryz.func30, Tryz.ntmps30
 go_upto_region 2 with fail
 rw [← hw1]
 clear hw1
 have h2g : ¬ w.heap.size = w.heap.size + 1 := by omega
 replace hb1 := Lib.hid hb1
 replace h2g := Lib.hid h2g
 go_upto_region 3 with (go_at_call 54; (refine KK.out.mono ?_); rintro e w2 ⟨hk2, rfl, hc2⟩)
 have hb4 : w1.heap.size ≤ w2.heap.size := hk2.size
 have hI : AInv w1 (w2.alloc (.cells #[.int .i64 11, .int .i64 0, .int .i64 0, .int .i64 0, .string ⟨#[]⟩, .int .u64 0, .int .u64 0, .bool false, .bool false, .int .u64 0, .int .u64 0, .int .i64 0, .int .i64 0] 34)) (w.heap.size + 1) w.heap.size w2.heap.size r #[.int .i64 11, .int .i64 0, .int .i64 0, .int .i64 0, .string ⟨#[]⟩, .int .u64 0, .int .u64 0, .bool false, .bool false, .int .u64 0, .int .u64 0, .int .i64 0, .int .i64 0] #[.int .i64 0, .int .i64 0, .int .i64 0, .int .i64 0, .string ⟨#[]⟩, .int .u64 0, .int .u64 0, .bool false, .bool false, .int .u64 0, .int .u64 0, .int .i64 0, .int .i64 0] := ⟨hk2.alloc _, Blk.alloc hc2 _, Blk.new _ _ _, (hr1.chg hk2 h2g.out).alloc _⟩
 clear hk2 hc2 hr1
 generalize w2.alloc (.cells #[.int .i64 11, .int .i64 0, .int .i64 0, .int .i64 0, .string ⟨#[]⟩, .int .u64 0, .int .u64 0, .bool false, .bool false, .int .u64 0, .int .u64 0, .int .i64 0, .int .i64 0] 34) = w3 at *
 generalize w2.heap.size = b4 at *
 have h4g : ¬ b4 = w.heap.size + 1 := by omega
 have h42 : ¬ b4 = w.heap.size := by omega
 have c0 : w3.cell? ⟨b4, 0, none⟩ = some (.int .i64 11) := hI.b.cell 0
 replace hb4 := Lib.hid hb4
 clear hs1
 go_upto_region 25 with fail
 cases h0 : takeP numP r with
 | none =>
  have R0 := Lib.hid (read_no (z := #[.int .i64 0, .int .i64 0, .int .i64 0, .int .i64 0, .string ⟨#[]⟩, .int .u64 0, .int .u64 0, .bool false, .bool false, .int .u64 0, .int .u64 0, .int .i64 0, .int .i64 0]) (cs := #[.int .i64 11, .int .i64 0, .int .i64 0, .int .i64 0, .string ⟨#[]⟩, .int .u64 0, .int .u64 0, .bool false, .bool false, .int .u64 0, .int .u64 0, .int .i64 0, .int .i64 0]) reads_number hS.out h2g.out h4g hsp' hl' h0)
  go_wp2_with (first
   | (go_at_call 55; (with_reducible refine (R0.out _ hI).mono ?_); rintro e wn ⟨rfl, hkn⟩))
  exact ⟨rfl, by simp only [seqT, h0]; rfl, below_cur hb1.out hkn (by omega)⟩
 | some v0 =>
  obtain ⟨y0, r1⟩ := v0
  obtain ⟨hsp1, hl1⟩ := take_sp h0 hsp' hl'
  have R0 := Lib.hid (read_yes (z := #[.int .i64 0, .int .i64 0, .int .i64 0, .int .i64 0, .string ⟨#[]⟩, .int .u64 0, .int .u64 0, .bool false, .bool false, .int .u64 0, .int .u64 0, .int .i64 0, .int .i64 0]) (cs := #[.int .i64 11, .int .i64 0, .int .i64 0, .int .i64 0, .string ⟨#[]⟩, .int .u64 0, .int .u64 0, .bool false, .bool false, .int .u64 0, .int .u64 0, .int .i64 0, .int .i64 0]) reads_number hS.out h2g.out h4g hsp' hl' h0)
  go_upto_region 26 with (first
   | (go_at_call 55; (with_reducible refine (R0.out _ hI).mono ?_); rintro e w4 ⟨rfl, hI1⟩; have d3 := Blk.frozen hI1.b 3; have q3 : w4.cell? ⟨b4, 3, none⟩ = some (.int .i64 0) := Blk.cell hI1.b 3))
  have hJ : AInv w1 (w4.setCell ⟨b4, 3, none⟩ (.int .i64 y0)) (w.heap.size + 1) w.heap.size b4 r1 #[.int .i64 11, .int .i64 0, .int .i64 0, .int .i64 y0, .string ⟨#[]⟩, .int .u64 0, .int .u64 0, .bool false, .bool false, .int .u64 0, .int .u64 0, .int .i64 0, .int .i64 0] #[.int .i64 0, .int .i64 0, .int .i64 0, .int .i64 0, .string ⟨#[]⟩, .int .u64 0, .int .u64 0, .bool false, .bool false, .int .u64 0, .int .u64 0, .int .i64 0, .int .i64 0] := (hI1.set h4g h42 hb4.out 3 (.int .i64 y0))
  generalize (w4.setCell ⟨b4, 3, none⟩ (.int .i64 y0)) = wz at *
  clear c0 d3 q3 hI hI1
  cases r1 with
  | cons a t =>
   have k1 : wz.cell? ⟨w.heap.size + 1, 1, none⟩ = some (.bool true) := Blk.cell hJ.c 1
   have MF := Lib.hid must_false
   go_wp2_with (go_at_call 60; (refine (MF.out _).mono ?_); rintro e wn ⟨rfl, rfl⟩)
   exact ⟨rfl, by simp only [seqT, h0]; rfl, below_cur hb1.out hJ.k (by omega)⟩
  | nil =>
   have k1 : wz.cell? ⟨w.heap.size + 1, 1, none⟩ = some (.bool false) := Blk.cell hJ.c 1
   have MT := Lib.hid must_true
   go_wp2_with (first
    | (go_at_call 60; (refine (MT.out _).mono ?_); rintro e wn ⟨rfl, rfl⟩)
    | (with_reducible refine wpList_load_blk rfl 34 (.tmp 4) rfl b4 0 rfl hJ.b [.int .i64 11, .int .i64 0, .int .i64 0, .int .i64 y0, .string ⟨#[]⟩, .int .u64 0, .int .u64 0, .bool false, .bool false, .int .u64 0, .int .u64 0, .int .i64 0, .int .i64 0] rfl _ Tryz.underlying34 rfl (by kernel_rfl) ?_)
    | (with_reducible refine wpList_store_blk rfl rfl 34 (.tmp 2) (.tmp 95) rfl w.heap.size 0 rfl hJ.r [.int .i64 11, .int .i64 0, .int .i64 0, .int .i64 y0, .string ⟨#[]⟩, .int .u64 0, .int .u64 0, .bool false, .bool false, .int .u64 0, .int .u64 0, .int .i64 0, .int .i64 0] rfl (Nat.le_of_ble_eq_true (by kernel_rfl)) (by kernel_rfl) rfl ?_; intro wy hBy hcy hzy))
   refine bodyPost_ret (v := .agg #[.int .i64 11, .int .i64 0, .int .i64 0, .int .i64 y0, .string ⟨#[]⟩, .int .u64 0, .int .u64 0, .bool false, .bool false, .int .u64 0, .int .u64 0, .int .i64 0, .int .i64 0]) (results_cell rfl rfl (loadVar_blk 34 hBy [.int .i64 11, .int .i64 0, .int .i64 0, .int .i64 y0, .string ⟨#[]⟩, .int .u64 0, .int .u64 0, .bool false, .bool false, .int .u64 0, .int .u64 0, .int .i64 0, .int .i64 0] rfl _ Tryz.underlying34 rfl (by kernel_rfl))) rfl ?_
   exact ⟨by simp only [seqT, h0]; rfl, (below_cur hb1.out hJ.k (by omega)).trans (hcy.below (fun b hb h => by omega) (below_cur hb1.out hJ.k (by omega)).size)⟩
theorem scr_act_no (l : List UInt8) (wd : List UInt8) (r : List (List UInt8)) (w : World) (hw : Std w) (hL : l.length ≤ 10000) (hp : parts 32 l = wd :: r) (hkd : kindP wd = none) :
  Calls Tryz.prog 30 #[.string ⟨l.toArray⟩] w fun e w' => e = thrown ∧ Below w.heap.size w w' := by
 have hj : restL (wd :: r) = l := by unfold restL; rw [← hp]; exact join_parts 32 l
 have hsp : ∀ x ∈ wd :: r, (32 : UInt8) ∉ x := by rw [← hp]; exact not_mem_parts 32 l
 have hl0 : (restL (wd :: r)).length ≤ 10000 := by rw [hj]; exact hL
 obtain ⟨w1, hw1⟩ : ∃ w1, w1 = (w.alloc (.cells #[.int .i64 0, .int .i64 0, .int .i64 0, .int .i64 0, .string ⟨#[]⟩, .int .u64 0, .int .u64 0, .bool false, .bool false, .int .u64 0, .int .u64 0, .int .i64 0, .int .i64 0] 34)).alloc (.cells #[.string ⟨l.toArray⟩, .bool true] 95) := ⟨_, rfl⟩
 have hb1 : Below w.heap.size w w1 := hw1 ▸ below_alloc (below_alloc (Below.refl _ _) _) _
 have hs1 : w1.heap.size = w.heap.size + 2 := by rw [hw1]; simp
 have hc1 : Cur w1 (w.heap.size + 1) (wd :: r) := by
  unfold Cur
  rw [hj, hw1]
  have := Blk.new (w.alloc (.cells #[.int .i64 0, .int .i64 0, .int .i64 0, .int .i64 0, .string ⟨#[]⟩, .int .u64 0, .int .u64 0, .bool false, .bool false, .int .u64 0, .int .u64 0, .int .i64 0, .int .i64 0] 34)) 95 #[.string ⟨l.toArray⟩, .bool true]
  rw [show (w.alloc (.cells #[.int .i64 0, .int .i64 0, .int .i64 0, .int .i64 0, .string ⟨#[]⟩, .int .u64 0, .int .u64 0, .bool false, .bool false, .int .u64 0, .int .u64 0, .int .i64 0, .int .i64 0] 34)).heap.size = w.heap.size + 1 by simp] at this
  exact this
 have hS : ∀ W, Chg (· = w.heap.size + 1) w1 W → Std W := fun W h => hw.below (below_cur hb1 h (by omega))
 have KK := reads_kind (w.heap.size + 1) (wd :: r) w1 (hw.below hb1) hc1 hsp hl0 hS
 have ht : takeP kindP (wd :: r) = none := by show (kindP wd).map (fun v => (v, r)) = _; rw [hkd]; rfl
 simp only [ht] at KK
 replace KK := Lib.hid KK
 replace hS := Lib.hid hS
 clear ht hsp hl0 hkd hc1 hs1
 replace hp := Lib.hid hp
 replace hj := Lib.hid hj
 replace hL := Lib.hid hL
 go_enter Tryz.func30, Tryz.ntmps30
 go_upto_region 2 with fail
 rw [← hw1]
 clear hw1
 replace hb1 := Lib.hid hb1
 go_wp2_with (go_at_call 54; (refine KK.out.mono ?_); rintro e w2 ⟨hk2, rfl⟩)
 exact ⟨rfl, rfl, below_cur hb1.out hk2 (by omega)⟩
theorem scr_act (l : List UInt8) (w : World) (hw : Std w) (hL : l.length ≤ 10000) :
  Calls Tryz.prog 30 #[.string ⟨l.toArray⟩] w fun e w' => e = actE (parseP l) ∧ Below w.heap.size w w' := by
 obtain ⟨wd, r, hp⟩ := parts_cons 32 l
 have hP : parseP l = (kindP wd).bind fun k => argsP k r := by unfold parseP; rw [hp]; rfl
 rw [hP]
 cases hk : kindP wd with
 | none => exact scr_act_no l wd r w hw hL hp hk
 | some k =>
  have h12 := ((kindP_iff wd k).1 hk).1
  show Calls Tryz.prog 30 #[.string ⟨l.toArray⟩] w fun e w' => e = actE (argsP k r) ∧ Below w.heap.size w w'
  obtain rfl | rfl | rfl | rfl | rfl | rfl | rfl | rfl | rfl | rfl | rfl | rfl : k = 0 ∨ k = 1 ∨ k = 2 ∨ k = 3 ∨ k = 4 ∨ k = 5 ∨ k = 6 ∨ k = 7 ∨ k = 8 ∨ k = 9 ∨ k = 10 ∨ k = 11 := by omega
  · exact scr_act0 l wd r w hw hL hp hk
  · exact scr_act1 l wd r w hw hL hp hk
  · exact scr_act2 l wd r w hw hL hp hk
  · exact scr_act3 l wd r w hw hL hp hk
  · exact scr_act4 l wd r w hw hL hp hk
  · exact scr_act5 l wd r w hw hL hp hk
  · exact scr_act6 l wd r w hw hL hp hk
  · exact scr_act7 l wd r w hw hL hp hk
  · exact scr_act8 l wd r w hw hL hp hk
  · exact scr_act9 l wd r w hw hL hp hk
  · exact scr_act10 l wd r w hw hL hp hk
  · exact scr_act11 l wd r w hw hL hp hk
end Go.Proofs.YtodbgjnccngljaaGreatDoor
