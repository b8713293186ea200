/- part: the law PartTells, called. -/
import Derived.Test.YtdkcjfcjckpjcaaPartD
namespace Go.Proofs.Ytdkcjfcjckpjcaa
open Go Go.RowKit Go.Deep

set_option maxRecDepth 100000 in
set_option maxHeartbeats 4000000 in
theorem partTells_calls (a b : Int) (t : Tup) (n : Int) (A : Option Addr) (c : Nat) (l : List Tup) (D : Option Addr) (d : Nat) (al : List Bool) (w : World) (ht : tupWf t)
    (hr : Reads w w.heap.size 9 A l.length (l.flatMap Tup.cells)) (hwf : ∀ t ∈ l, tupWf t) (hl : l.length ≤ 9223372036854775807) (hr2 : Reads w w.heap.size 1 D al.length (al.map .bool)) (hl2 : al.length ≤ 9223372036854775807) :
    Calls Try.prog 14 #[.agg #[.int .u64 a, .int .u64 b], t.val, .int .i64 n, .slice A l.length c, .slice D al.length d] w fun e w' => e = .returned (.bool true) ∧ Below w.heap.size w w' := by
  by_cases h1 : 30 < l.length
  · have h1i : decide ((30 : Int) < (l.length : Int)) = true := by simp; omega
    obtain ⟨p, v, hi, lo, v', hi', lo', sp, dp⟩ := t
    unfold Tup.val
    go_enter Try.func14, Try.ntmps14
    go_wp2_with (go_at_call 90; refine (awake15 _).mono ?_; rintro e w1 ⟨rfl, hb1⟩)
    go_ret
    exact ⟨rfl, (by repeat (first | exact Below.refl _ _ | assumption | refine below_alloc ?_ _ | refine below_chain (by assumption) ?_ | refine below_call2 (by assumption) ?_ (by first | omega | (simp; done) | (simp; omega) | (simp [World.setCell]; omega)) | refine below_drewN ?_ _ | refine Below.drew ?_ | refine Below.alloc ?_ (by first | omega | (simp; done) | (simp; omega) | (simp [World.setCell]; omega)) _ | refine Below.setCell ?_ (by first | omega | (simp; done) | (simp; omega) | (simp [World.setCell]; omega)) _))⟩
  by_cases h2 : 10 < al.length
  · have h1i : decide ((30 : Int) < (l.length : Int)) = false := by simp; omega
    have h2i : decide ((10 : Int) < (al.length : Int)) = true := by simp; omega
    obtain ⟨p, v, hi, lo, v', hi', lo', sp, dp⟩ := t
    unfold Tup.val
    go_enter Try.func14, Try.ntmps14
    go_wp2_with (go_at_call 90; refine (awake15 _).mono ?_; rintro e w1 ⟨rfl, hb1⟩)
    go_ret
    exact ⟨rfl, (by repeat (first | exact Below.refl _ _ | assumption | refine below_alloc ?_ _ | refine below_chain (by assumption) ?_ | refine below_call2 (by assumption) ?_ (by first | omega | (simp; done) | (simp; omega) | (simp [World.setCell]; omega)) | refine below_drewN ?_ _ | refine Below.drew ?_ | refine Below.alloc ?_ (by first | omega | (simp; done) | (simp; omega) | (simp [World.setCell]; omega)) _ | refine Below.setCell ?_ (by first | omega | (simp; done) | (simp; omega) | (simp [World.setCell]; omega)) _))⟩
  have h1i : decide ((30 : Int) < (l.length : Int)) = false := by simp; omega
  have h2i : decide ((10 : Int) < (al.length : Int)) = false := by simp; omega
  obtain ⟨x1, x2, x3, x4⟩ := ht
  have I1 := fun W hr => instance_any a b t al D d W hr (by omega)
  have I2 := fun W hr => refinstance_any a b t al D d W x1 x2 x3 x4 hr (by omega)
  have O1 := part_of a b t n
  have O2 := fun W => refpart_of a b t n W x1 x2 x3 x4
  have S1 := fun W hr => spread_any a b l n A c W hr (by omega)
  have S2 := fun W hr => refspread_any a b l n A c W hwf hr (by omega)
  have SL := spreadL_le a b l n
  obtain ⟨L, hL⟩ : ∃ L, spreadL a b l n = L := ⟨_, rfl⟩
  obtain ⟨P, hP⟩ : ∃ P, partI a b t n = P := ⟨_, rfl⟩
  obtain ⟨⟨i, o⟩, hI⟩ : ∃ x, instI a b t al = x := ⟨_, rfl⟩
  rw [hL] at S1 S2 SL
  rw [hP] at O1 O2
  rw [hI] at I1 I2
  have C3 := fun A B c d w N h1 h2 => sameInts_any A B c d L L w N h1 h2 (by omega) (by omega)
  have hself : sameL L L = true := by simp [sameL]
  rw [hself] at C3
  obtain ⟨p, v, hi, lo, v', hi', lo', sp, dp⟩ := t
  unfold Tup.val at *
  dsimp only at *
  replace I1 := Lib.hid I1
  replace I2 := Lib.hid I2
  replace O1 := Lib.hid O1
  replace O2 := Lib.hid O2
  replace S1 := Lib.hid S1
  replace S2 := Lib.hid S2
  replace C3 := Lib.hid C3
  clear hL hP hI hself x1 x2 x3 x4 hwf h1 h2 SL
  have B1 : Blk ((w.alloc (.cells #[.int .u64 a, .int .u64 b] 119)).alloc (.cells #[.int .i64 p, .bool v, .int .u64 hi, .int .u64 lo, .bool v', .int .u64 hi', .int .u64 lo', .int .i64 sp, .int .i64 dp] 121)) w.heap.size 119 #[.int .u64 a, .int .u64 b] := (Blk.new w _ _).alloc _
  have B2 := Blk.new (w.alloc (.cells #[.int .u64 a, .int .u64 b] 119)) 121 #[.int .i64 p, .bool v, .int .u64 hi, .int .u64 lo, .bool v', .int .u64 hi', .int .u64 lo', .int .i64 sp, .int .i64 dp]
  have hb0 : Below w.heap.size w ((w.alloc (.cells #[.int .u64 a, .int .u64 b] 119)).alloc (.cells #[.int .i64 p, .bool v, .int .u64 hi, .int .u64 lo, .bool v', .int .u64 hi', .int .u64 lo', .int .i64 sp, .int .i64 dp] 121)) := (by repeat (first | exact Below.refl _ _ | assumption | refine below_alloc ?_ _ | refine below_chain (by assumption) ?_ | refine below_call2 (by assumption) ?_ (by first | omega | (simp; done) | (simp; omega) | (simp [World.setCell]; omega)) | refine below_drewN ?_ _ | refine Below.drew ?_ | refine Below.alloc ?_ (by first | omega | (simp; done) | (simp; omega) | (simp [World.setCell]; omega)) _ | refine Below.setCell ?_ (by first | omega | (simp; done) | (simp; omega) | (simp [World.setCell]; omega)) _))
  simp only [World.size_alloc] at B2
  go_enter Try.func14, Try.ntmps14
  go_wp2_with fail
  refine (I1.out _ ((hr2.below hb0).more hb0.size)).mono ?_
  rintro e w1 ⟨rfl, hb1⟩
  have B3 := B1.call hb1
  have B4 := B2.call hb1
  have hbA := below_chain hb1 hb0
  clear B1 B2 hb1 hb0
  have d0 := B3.cell 0
  have d1 := B3.cell 1
  have c0 := B4.cell 0
  have c1 := B4.cell 1
  have c2 := B4.cell 2
  have c3 := B4.cell 3
  have c4 := B4.cell 4
  have c5 := B4.cell 5
  have c6 := B4.cell 6
  have c7 := B4.cell 7
  have c8 := B4.cell 8
  simp at d0 d1 c0 c1 c2 c3 c4 c5 c6 c7 c8
  go_wp2_with fail
  refine (I2.out _ ((hr2.below hbA).more hbA.size)).mono ?_
  rintro e w2 ⟨rfl, hb2⟩
  have B5 := B3.call hb2
  have B6 := B4.call hb2
  have hbB := below_chain hb2 hbA
  clear B3 B4 hb2 hbA d0 d1 c0 c1 c2 c3 c4 c5 c6 c7 c8
  have d0 := B5.cell 0
  have d1 := B5.cell 1
  have c0 := B6.cell 0
  have c1 := B6.cell 1
  have c2 := B6.cell 2
  have c3 := B6.cell 3
  have c4 := B6.cell 4
  have c5 := B6.cell 5
  have c6 := B6.cell 6
  have c7 := B6.cell 7
  have c8 := B6.cell 8
  simp at d0 d1 c0 c1 c2 c3 c4 c5 c6 c7 c8
  clear B5 B6
  have hr3 : Reads w2 w2.heap.size 9 A l.length (l.flatMap Tup.cells) := (hr.below hbB).more hbB.size
  have hself : ∀ (W X : World), Below w2.heap.size w2 W → Reads W W.heap.size 9 A l.length (l.flatMap Tup.cells) := fun W X h => (hr3.below h).more h.size
  replace hself := Lib.hid hself
  clear hr hr2 hr3 h1i h2i
  go_wp2_with fail
  go_region_held3 (fun w' => Below w2.heap.size w2 w' ∧ w'.cell? ⟨w.heap.size, 0, none⟩ = some (.int .u64 a) ∧ w'.cell? ⟨w.heap.size, 1, none⟩ = some (.int .u64 b) ∧ w'.cell? ⟨w.heap.size + 1, 0, none⟩ = some (.int .i64 p) ∧ w'.cell? ⟨w.heap.size + 1, 1, none⟩ = some (.bool v) ∧ w'.cell? ⟨w.heap.size + 1, 2, none⟩ = some (.int .u64 hi) ∧ w'.cell? ⟨w.heap.size + 1, 3, none⟩ = some (.int .u64 lo) ∧ w'.cell? ⟨w.heap.size + 1, 4, none⟩ = some (.bool v') ∧ w'.cell? ⟨w.heap.size + 1, 5, none⟩ = some (.int .u64 hi') ∧ w'.cell? ⟨w.heap.size + 1, 6, none⟩ = some (.int .u64 lo') ∧ w'.cell? ⟨w.heap.size + 1, 7, none⟩ = some (.int .i64 sp) ∧ w'.cell? ⟨w.heap.size + 1, 8, none⟩ = some (.int .i64 dp)) ((first | assumption | ((refine ⟨?_, ?_⟩; (first | assumption | exact (Below.refl _ _).drew | exact Below.refl _ _); go_keep)))) (first
    | (go_at_call 93; with_reducible refine (O1.out _).mono ?_; rintro e w3 ⟨rfl, hb3⟩; have hS := hold11 (by assumption) hb3)
    | (go_at_call 94; with_reducible refine (O2.out _).mono ?_; rintro e w4 ⟨rfl, hb4⟩; have hS := hold11 (by assumption) hb4)
    | (go_at_call 95; refine (S1.out _ (hself.out _ w2 (by exact hS.1))).mono ?_; rintro e w5 ⟨A5, c5, rfl, hr5, hb5⟩; have hS := hold11 (by assumption) hb5)
    | (go_at_call 96; refine (S2.out _ (hself.out _ w2 (by exact hS.1))).mono ?_; rintro e w6 ⟨A6, c6, rfl, hr6, hb6⟩; have hS := hold11 (by assumption) hb6; have hr7 := (hr5.below hb6).more hb6.size)
    | (go_at_call 28; with_reducible refine (C3.out _ _ _ _ _ w6.heap.size hr7 hr6).mono ?_; rintro e w7 ⟨rfl, m7, rfl⟩; have hS := hold11 (by assumption) (below_drewN (Below.refl _ w6) m7))
    | (go_at_call 90; with_reducible refine (awake15 _).mono ?_; rintro e w8 ⟨rfl, hb8⟩; have hS := hold11 (by assumption) hb8))
  all_goals
    go_wp2_with fail
    go_ret
    exact ⟨rfl, below_chain (by exact hS.1) hbB⟩
end Go.Proofs.Ytdkcjfcjckpjcaa
