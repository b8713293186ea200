/- addr and its reference: Right, Put. tuple and its reference: Right. tuple: kind, Put; the reference: Right, Put. -/
import Derived.Test.YtodbgjnccngljaaGreatDoorJ9
import Derived.Deep.RegionHeld3
namespace Go.Proofs.YtodbgjnccngljaaGreatDoor
open Go Go.RowKit Go.Deep
def adrOk (v6 : Bool) (hi lo : Nat) : Bool := v6 || (decide (hi = 0) && decide (lo < 4294967296))
def adrPut (v6 : Bool) (hi lo : Nat) : List UInt8 := if adrOk v6 hi lo then (if v6 then octB hi 8 ++ octB lo 8 else octB lo 4) else []
theorem octB_len (m k : Nat) : (octB m k).length = k := by simp [octB]
theorem adrPut_len (v6 : Bool) (hi lo : Nat) : (adrPut v6 hi lo).length ≤ 16 := by
 unfold adrPut; split
 · split <;> simp [octB_len]
 · simp
theorem addr_right (v6 : Bool) (hi lo : Nat) (w : World) : Calls Tryz.prog 39 #[.agg #[.bool v6, .int .u64 hi, .int .u64 lo]] w fun e w' => e = .returned (.bool (adrOk v6 hi lo)) ∧ Below w.heap.size w w' := by
 unfold adrOk
 cases v6
 ·
  by_cases h0 : hi = 0
  ·
   subst h0
   by_cases h1 : lo < 4294967296
   ·
    have h2 : decide ((lo : Int) < 4294967296) = true := by simp; omega
    go_enter Tryz.func39, Tryz.ntmps39
    go_wp2_with fail
    go_ret
    exact ⟨by simp [h1], (by repeat (first | exact Below.refl _ _ | assumption | refine below_alloc ?_ _ | refine below_chain (by assumption) ?_ | refine below_call2 (by assumption) ?_ (by first | omega | (simp; done) | (simp; omega) | (simp [World.setCell]; omega)) | refine below_drewN ?_ _ | refine Below.drew ?_ | refine Below.alloc ?_ (by first | omega | (simp; done) | (simp; omega) | (simp [World.setCell]; omega)) _ | refine Below.setCell ?_ (by first | omega | (simp; done) | (simp; omega) | (simp [World.setCell]; omega)) _))⟩
   ·
    have h2 : decide ((lo : Int) < 4294967296) = false := by simp; omega
    go_enter Tryz.func39, Tryz.ntmps39
    go_wp2_with fail
    go_ret
    exact ⟨by simp [h1], (by repeat (first | exact Below.refl _ _ | assumption | refine below_alloc ?_ _ | refine below_chain (by assumption) ?_ | refine below_call2 (by assumption) ?_ (by first | omega | (simp; done) | (simp; omega) | (simp [World.setCell]; omega)) | refine below_drewN ?_ _ | refine Below.drew ?_ | refine Below.alloc ?_ (by first | omega | (simp; done) | (simp; omega) | (simp [World.setCell]; omega)) _ | refine Below.setCell ?_ (by first | omega | (simp; done) | (simp; omega) | (simp [World.setCell]; omega)) _))⟩
  ·
   have h2 : ((hi : Int) == 0) = false := by simp; omega
   go_enter Tryz.func39, Tryz.ntmps39
   go_wp2_with fail
   go_ret
   exact ⟨by simp [h0], (by repeat (first | exact Below.refl _ _ | assumption | refine below_alloc ?_ _ | refine below_chain (by assumption) ?_ | refine below_call2 (by assumption) ?_ (by first | omega | (simp; done) | (simp; omega) | (simp [World.setCell]; omega)) | refine below_drewN ?_ _ | refine Below.drew ?_ | refine Below.alloc ?_ (by first | omega | (simp; done) | (simp; omega) | (simp [World.setCell]; omega)) _ | refine Below.setCell ?_ (by first | omega | (simp; done) | (simp; omega) | (simp [World.setCell]; omega)) _))⟩
 ·
  go_enter Tryz.func39, Tryz.ntmps39
  go_wp2_with fail
  go_ret
  exact ⟨by simp, (by repeat (first | exact Below.refl _ _ | assumption | refine below_alloc ?_ _ | refine below_chain (by assumption) ?_ | refine below_call2 (by assumption) ?_ (by first | omega | (simp; done) | (simp; omega) | (simp [World.setCell]; omega)) | refine below_drewN ?_ _ | refine Below.drew ?_ | refine Below.alloc ?_ (by first | omega | (simp; done) | (simp; omega) | (simp [World.setCell]; omega)) _ | refine Below.setCell ?_ (by first | omega | (simp; done) | (simp; omega) | (simp [World.setCell]; omega)) _))⟩
theorem refaddr_right (v6 : Bool) (hi lo : Nat) (w : World) : Calls Tryz.prog 41 #[.agg #[.bool v6, .int .u64 hi, .int .u64 lo]] w fun e w' => e = .returned (.bool (adrOk v6 hi lo)) ∧ Below w.heap.size w w' := by
 unfold adrOk
 cases v6
 ·
  by_cases h0 : hi = 0
  ·
   subst h0
   by_cases h1 : lo < 4294967296
   ·
    have h2 : decide ((lo : Int) < 4294967296) = true := by simp; omega
    go_enter Tryz.func41, Tryz.ntmps41
    go_wp2_with fail
    go_ret
    exact ⟨by simp [h1], (by repeat (first | exact Below.refl _ _ | assumption | refine below_alloc ?_ _ | refine below_chain (by assumption) ?_ | refine below_call2 (by assumption) ?_ (by first | omega | (simp; done) | (simp; omega) | (simp [World.setCell]; omega)) | refine below_drewN ?_ _ | refine Below.drew ?_ | refine Below.alloc ?_ (by first | omega | (simp; done) | (simp; omega) | (simp [World.setCell]; omega)) _ | refine Below.setCell ?_ (by first | omega | (simp; done) | (simp; omega) | (simp [World.setCell]; omega)) _))⟩
   ·
    have h2 : decide ((lo : Int) < 4294967296) = false := by simp; omega
    go_enter Tryz.func41, Tryz.ntmps41
    go_wp2_with fail
    go_ret
    exact ⟨by simp [h1], (by repeat (first | exact Below.refl _ _ | assumption | refine below_alloc ?_ _ | refine below_chain (by assumption) ?_ | refine below_call2 (by assumption) ?_ (by first | omega | (simp; done) | (simp; omega) | (simp [World.setCell]; omega)) | refine below_drewN ?_ _ | refine Below.drew ?_ | refine Below.alloc ?_ (by first | omega | (simp; done) | (simp; omega) | (simp [World.setCell]; omega)) _ | refine Below.setCell ?_ (by first | omega | (simp; done) | (simp; omega) | (simp [World.setCell]; omega)) _))⟩
  ·
   have h2 : ((hi : Int) == 0) = false := by simp; omega
   go_enter Tryz.func41, Tryz.ntmps41
   go_wp2_with fail
   go_ret
   exact ⟨by simp [h0], (by repeat (first | exact Below.refl _ _ | assumption | refine below_alloc ?_ _ | refine below_chain (by assumption) ?_ | refine below_call2 (by assumption) ?_ (by first | omega | (simp; done) | (simp; omega) | (simp [World.setCell]; omega)) | refine below_drewN ?_ _ | refine Below.drew ?_ | refine Below.alloc ?_ (by first | omega | (simp; done) | (simp; omega) | (simp [World.setCell]; omega)) _ | refine Below.setCell ?_ (by first | omega | (simp; done) | (simp; omega) | (simp [World.setCell]; omega)) _))⟩
 ·
  go_enter Tryz.func41, Tryz.ntmps41
  go_wp2_with fail
  go_ret
  exact ⟨by simp, (by repeat (first | exact Below.refl _ _ | assumption | refine below_alloc ?_ _ | refine below_chain (by assumption) ?_ | refine below_call2 (by assumption) ?_ (by first | omega | (simp; done) | (simp; omega) | (simp [World.setCell]; omega)) | refine below_drewN ?_ _ | refine Below.drew ?_ | refine Below.alloc ?_ (by first | omega | (simp; done) | (simp; omega) | (simp [World.setCell]; omega)) _ | refine Below.setCell ?_ (by first | omega | (simp; done) | (simp; omega) | (simp [World.setCell]; omega)) _))⟩
set_option maxHeartbeats 1000000 in
theorem addr_put (v6 : Bool) (hi lo : Nat) (w : World) : Calls Tryz.prog 71 #[.agg #[.bool v6, .int .u64 hi, .int .u64 lo]] w fun e w' => e = .returned (.string ⟨(adrPut v6 hi lo).toArray⟩) ∧ Below w.heap.size w w' := by
 have R := addr_right v6 hi lo
 unfold adrPut
 obtain ⟨o, ho⟩ : ∃ o, adrOk v6 hi lo = o := ⟨_, rfl⟩
 rw [ho] at R ⊢
 replace R := Lib.hid R
 replace ho := Lib.hid ho
 cases o
 ·
  go_enter Tryz.func71, Tryz.ntmps71
  go_wp2_with (go_at_call 39; refine (R.out _).mono ?_; rintro e w1 ⟨rfl, hb1⟩)
  go_ret
  exact ⟨rfl, (by repeat (first | exact Below.refl _ _ | assumption | refine below_alloc ?_ _ | refine below_chain (by assumption) ?_ | refine below_call2 (by assumption) ?_ (by first | omega | (simp; done) | (simp; omega) | (simp [World.setCell]; omega)) | refine below_drewN ?_ _ | refine Below.drew ?_ | refine Below.alloc ?_ (by first | omega | (simp; done) | (simp; omega) | (simp [World.setCell]; omega)) _ | refine Below.setCell ?_ (by first | omega | (simp; done) | (simp; omega) | (simp [World.setCell]; omega)) _))⟩
 ·
  cases v6
  ·
   go_enter Tryz.func71, Tryz.ntmps71
   go_wp2_with (first | (go_at_call 39; refine (R.out _).mono ?_; rintro e w1 ⟨rfl, hb1⟩; obtain ⟨hc1, hf1⟩ := bcell hb1) | (go_at_call 90; refine (oct_put lo 4 _ (by omega) (by omega)).mono ?_; rintro e w2 ⟨rfl, hb2⟩))
   go_ret
   exact ⟨rfl, (by repeat (first | exact Below.refl _ _ | assumption | refine below_alloc ?_ _ | refine below_chain (by assumption) ?_ | refine below_call2 (by assumption) ?_ (by first | omega | (simp; done) | (simp; omega) | (simp [World.setCell]; omega)) | refine below_drewN ?_ _ | refine Below.drew ?_ | refine Below.alloc ?_ (by first | omega | (simp; done) | (simp; omega) | (simp [World.setCell]; omega)) _ | refine Below.setCell ?_ (by first | omega | (simp; done) | (simp; omega) | (simp [World.setCell]; omega)) _))⟩
  ·
   have l1 := octB_len hi 8
   have l2 := octB_len lo 8
   have hB0 := Blk.new w 24 #[.bool true, .int .u64 hi, .int .u64 lo]
   have hb0 : Below w.heap.size w (w.alloc (.cells #[.bool true, .int .u64 hi, .int .u64 lo] 24)) := (by repeat (first | exact Below.refl _ _ | assumption | refine below_alloc ?_ _ | refine below_chain (by assumption) ?_ | refine below_call2 (by assumption) ?_ (by first | omega | (simp; done) | (simp; omega) | (simp [World.setCell]; omega)) | refine below_drewN ?_ _ | refine Below.drew ?_ | refine Below.alloc ?_ (by first | omega | (simp; done) | (simp; omega) | (simp [World.setCell]; omega)) _ | refine Below.setCell ?_ (by first | omega | (simp; done) | (simp; omega) | (simp [World.setCell]; omega)) _))
   have hal : ¬ 9223372036854775807 < (octB hi 8).length + (octB lo 8).length := by omega
   go_enter Tryz.func71, Tryz.ntmps71
   go_wp2_with (first | (go_at_call 39; refine (R.out _).mono ?_; rintro e w1 ⟨rfl, hb1⟩; obtain ⟨hc1, hf1⟩ := bcell hb1))
   clear hc1 hf1
   have hB := hB0.below hb1 hB0.lt
   have c1 := hB.cell 1
   have c2 := hB.cell 2
   simp at c1 c2
   have hbA := below_chain hb1 hb0
   clear hb1 hB0 hb0 hB R
   replace l1 := Lib.hid l1
   replace l2 := Lib.hid l2
   go_region_held3 (fun w' => Below w1.heap.size w1 w' ∧ w'.cell? ⟨w.heap.size, 1, none⟩ = some (.int .u64 hi) ∧ w'.cell? ⟨w.heap.size, 2, none⟩ = some (.int .u64 lo)) ((first | assumption | ((refine ⟨?_, ?_⟩; (first | assumption | exact (Below.refl _ _).drew | exact Below.refl _ _); go_keep)))) (first
    | (go_at_call 90; refine (oct_put _ 8 _ (by omega) (by omega)).mono ?_; rintro e w2 ⟨rfl, hb2⟩; have hS := hold2 (by assumption) hb2))
   all_goals
    go_wp2_with fail
    go_ret
    refine ⟨?_, below_chain (by exact hS.1) hbA⟩
    rw [← str_append]; rfl
set_option maxHeartbeats 1000000 in
theorem refaddr_put (v6 : Bool) (hi lo : Nat) (w : World) (hhi : hi < 18446744073709551616) (hlo : lo < 18446744073709551616) : Calls Tryz.prog 53 #[.agg #[.bool v6, .int .u64 hi, .int .u64 lo]] w fun e w' => e = .returned (.string ⟨(adrPut v6 hi lo).toArray⟩) ∧ Below w.heap.size w w' := by
 have R := refaddr_right v6 hi lo
 unfold adrPut
 obtain ⟨o, ho⟩ : ∃ o, adrOk v6 hi lo = o := ⟨_, rfl⟩
 rw [ho] at R ⊢
 replace R := Lib.hid R
 replace ho := Lib.hid ho
 cases o
 ·
  go_enter Tryz.func53, Tryz.ntmps53
  go_wp2_with (go_at_call 41; refine (R.out _).mono ?_; rintro e w1 ⟨rfl, hb1⟩)
  go_ret
  exact ⟨rfl, (by repeat (first | exact Below.refl _ _ | assumption | refine below_alloc ?_ _ | refine below_chain (by assumption) ?_ | refine below_call2 (by assumption) ?_ (by first | omega | (simp; done) | (simp; omega) | (simp [World.setCell]; omega)) | refine below_drewN ?_ _ | refine Below.drew ?_ | refine Below.alloc ?_ (by first | omega | (simp; done) | (simp; omega) | (simp [World.setCell]; omega)) _ | refine Below.setCell ?_ (by first | omega | (simp; done) | (simp; omega) | (simp [World.setCell]; omega)) _))⟩
 ·
  cases v6
  ·
   go_enter Tryz.func53, Tryz.ntmps53
   go_wp2_with (first | (go_at_call 41; refine (R.out _).mono ?_; rintro e w1 ⟨rfl, hb1⟩; obtain ⟨hc1, hf1⟩ := bcell hb1) | (go_at_call 63; refine (refoct_put lo 4 _ hlo (by omega)).mono ?_; rintro e w2 ⟨rfl, hb2⟩))
   go_ret
   exact ⟨rfl, (by repeat (first | exact Below.refl _ _ | assumption | refine below_alloc ?_ _ | refine below_chain (by assumption) ?_ | refine below_call2 (by assumption) ?_ (by first | omega | (simp; done) | (simp; omega) | (simp [World.setCell]; omega)) | refine below_drewN ?_ _ | refine Below.drew ?_ | refine Below.alloc ?_ (by first | omega | (simp; done) | (simp; omega) | (simp [World.setCell]; omega)) _ | refine Below.setCell ?_ (by first | omega | (simp; done) | (simp; omega) | (simp [World.setCell]; omega)) _))⟩
  ·
   have l1 := octB_len hi 8
   have l2 := octB_len lo 8
   have hB0 := Blk.new w 24 #[.bool true, .int .u64 hi, .int .u64 lo]
   have hb0 : Below w.heap.size w (w.alloc (.cells #[.bool true, .int .u64 hi, .int .u64 lo] 24)) := (by repeat (first | exact Below.refl _ _ | assumption | refine below_alloc ?_ _ | refine below_chain (by assumption) ?_ | refine below_call2 (by assumption) ?_ (by first | omega | (simp; done) | (simp; omega) | (simp [World.setCell]; omega)) | refine below_drewN ?_ _ | refine Below.drew ?_ | refine Below.alloc ?_ (by first | omega | (simp; done) | (simp; omega) | (simp [World.setCell]; omega)) _ | refine Below.setCell ?_ (by first | omega | (simp; done) | (simp; omega) | (simp [World.setCell]; omega)) _))
   have hal : ¬ 9223372036854775807 < (octB hi 8).length + (octB lo 8).length := by omega
   go_enter Tryz.func53, Tryz.ntmps53
   go_wp2_with (first | (go_at_call 41; refine (R.out _).mono ?_; rintro e w1 ⟨rfl, hb1⟩; obtain ⟨hc1, hf1⟩ := bcell hb1))
   clear hc1 hf1
   have hB := hB0.below hb1 hB0.lt
   have c1 := hB.cell 1
   have c2 := hB.cell 2
   simp at c1 c2
   have hbA := below_chain hb1 hb0
   clear hb1 hB0 hb0 hB R
   replace l1 := Lib.hid l1
   replace l2 := Lib.hid l2
   go_region_held3 (fun w' => Below w1.heap.size w1 w' ∧ w'.cell? ⟨w.heap.size, 1, none⟩ = some (.int .u64 hi) ∧ w'.cell? ⟨w.heap.size, 2, none⟩ = some (.int .u64 lo)) ((first | assumption | ((refine ⟨?_, ?_⟩; (first | assumption | exact (Below.refl _ _).drew | exact Below.refl _ _); go_keep)))) (first
    | (go_at_call 63; refine (refoct_put _ 8 _ (by assumption) (by omega)).mono ?_; rintro e w2 ⟨rfl, hb2⟩; have hS := hold2 (by assumption) hb2))
   all_goals
    go_wp2_with fail
    go_ret
    refine ⟨?_, below_chain (by exact hS.1) hbA⟩
    rw [← str_append]; rfl
def tinB (n m : Int) : Bool := decide (0 ≤ n) && decide (n ≤ m)
structure Tup where
 p : Int
 v : Bool
 hi : Nat
 lo : Nat
 v' : Bool
 hi' : Nat
 lo' : Nat
 sp : Int
 dp : Int
def tupOk (t : Tup) : Bool := tinB t.p 255 && (tinB t.sp 65535 && tinB t.dp 65535) && adrOk t.v t.hi t.lo && adrOk t.v' t.hi' t.lo' && t.v == t.v'
abbrev Tup.val (t : Tup) : Value := .agg #[.int .i64 t.p, .bool t.v, .int .u64 t.hi, .int .u64 t.lo, .bool t.v', .int .u64 t.hi', .int .u64 t.lo', .int .i64 t.sp, .int .i64 t.dp]
abbrev Tup.cells (t : Tup) : List Value := [.int .i64 t.p, .bool t.v, .int .u64 t.hi, .int .u64 t.lo, .bool t.v', .int .u64 t.hi', .int .u64 t.lo', .int .i64 t.sp, .int .i64 t.dp]
def kindN (b : Bool) : Nat := if b then 6 else 4
def tupPut (t : Tup) : List UInt8 := if tupOk t then octB (kindN t.v * 256 + t.p.toNat) 2 ++ adrPut t.v t.hi t.lo ++ adrPut t.v' t.hi' t.lo' ++ octB (t.sp.toNat * 65536 + t.dp.toNat) 4 else []
end Go.Proofs.YtodbgjnccngljaaGreatDoor
