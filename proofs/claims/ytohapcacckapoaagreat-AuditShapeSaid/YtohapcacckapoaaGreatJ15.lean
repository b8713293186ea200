/- addr and its reference: Right, Put. tuple and its reference: Right. tuple: kind, Put; the reference: Right, Put. -/
import Derived.Test.YtohapcacckapoaaGreatJ9
import Derived.Deep.RegionHeld3
namespace Go.Proofs.YtohapcacckapoaaGreat
open Go Go.RowKit Go.Deep
def adrOk (v6 : Bool) (hi lo : Nat) : Bool := v6 || (decide (hi = 0) && decide (lo < 4294967296))
def adrPut (v6 : Bool) (hi lo : Nat) : List UInt8 := if adrOk v6 hi lo then (if v6 then octB hi 8 ++ octB lo 8 else octB lo 4) else []
theorem addr_right (v6 : Bool) (hi lo : Nat) (w : World) : Calls Tryz.prog 43 #[.agg #[.bool v6, .int .u64 hi, .int .u64 lo]] w fun e w' => e = .returned (.bool (adrOk v6 hi lo)) ∧ Below w.heap.size w w' := by
 unfold adrOk
 cases v6
 ·
  by_cases h0 : hi = 0
  ·
   subst h0
   by_cases h1 : lo < 4294967296
   ·
    have h2 : decide ((lo : Int) < 4294967296) = true := by simp; omega
    go_enter Tryz.func43, Tryz.ntmps43
    go_wp2_with fail
    go_ret
    exact ⟨by simp [h1], (by repeat (first | exact Below.refl _ _ | assumption | refine below_alloc ?_ _ | refine below_chain (by assumption) ?_ | refine below_call2 (by assumption) ?_ (by first | omega | (simp; done) | (simp; omega) | (simp [World.setCell]; omega)) | refine below_drewN ?_ _ | refine Below.drew ?_ | refine Below.alloc ?_ (by first | omega | (simp; done) | (simp; omega) | (simp [World.setCell]; omega)) _ | refine Below.setCell ?_ (by first | omega | (simp; done) | (simp; omega) | (simp [World.setCell]; omega)) _))⟩
   ·
    have h2 : decide ((lo : Int) < 4294967296) = false := by simp; omega
    go_enter Tryz.func43, Tryz.ntmps43
    go_wp2_with fail
    go_ret
    exact ⟨by simp [h1], (by repeat (first | exact Below.refl _ _ | assumption | refine below_alloc ?_ _ | refine below_chain (by assumption) ?_ | refine below_call2 (by assumption) ?_ (by first | omega | (simp; done) | (simp; omega) | (simp [World.setCell]; omega)) | refine below_drewN ?_ _ | refine Below.drew ?_ | refine Below.alloc ?_ (by first | omega | (simp; done) | (simp; omega) | (simp [World.setCell]; omega)) _ | refine Below.setCell ?_ (by first | omega | (simp; done) | (simp; omega) | (simp [World.setCell]; omega)) _))⟩
  ·
   have h2 : ((hi : Int) == 0) = false := by simp; omega
   go_enter Tryz.func43, Tryz.ntmps43
   go_wp2_with fail
   go_ret
   exact ⟨by simp [h0], (by repeat (first | exact Below.refl _ _ | assumption | refine below_alloc ?_ _ | refine below_chain (by assumption) ?_ | refine below_call2 (by assumption) ?_ (by first | omega | (simp; done) | (simp; omega) | (simp [World.setCell]; omega)) | refine below_drewN ?_ _ | refine Below.drew ?_ | refine Below.alloc ?_ (by first | omega | (simp; done) | (simp; omega) | (simp [World.setCell]; omega)) _ | refine Below.setCell ?_ (by first | omega | (simp; done) | (simp; omega) | (simp [World.setCell]; omega)) _))⟩
 ·
  go_enter Tryz.func43, Tryz.ntmps43
  go_wp2_with fail
  go_ret
  exact ⟨by simp, (by repeat (first | exact Below.refl _ _ | assumption | refine below_alloc ?_ _ | refine below_chain (by assumption) ?_ | refine below_call2 (by assumption) ?_ (by first | omega | (simp; done) | (simp; omega) | (simp [World.setCell]; omega)) | refine below_drewN ?_ _ | refine Below.drew ?_ | refine Below.alloc ?_ (by first | omega | (simp; done) | (simp; omega) | (simp [World.setCell]; omega)) _ | refine Below.setCell ?_ (by first | omega | (simp; done) | (simp; omega) | (simp [World.setCell]; omega)) _))⟩
theorem refaddr_right (v6 : Bool) (hi lo : Nat) (w : World) : Calls Tryz.prog 12 #[.agg #[.bool v6, .int .u64 hi, .int .u64 lo]] w fun e w' => e = .returned (.bool (adrOk v6 hi lo)) ∧ Below w.heap.size w w' := by
 unfold adrOk
 cases v6
 ·
  by_cases h0 : hi = 0
  ·
   subst h0
   by_cases h1 : lo < 4294967296
   ·
    have h2 : decide ((lo : Int) < 4294967296) = true := by simp; omega
    go_enter Tryz.func12, Tryz.ntmps12
    go_wp2_with fail
    go_ret
    exact ⟨by simp [h1], (by repeat (first | exact Below.refl _ _ | assumption | refine below_alloc ?_ _ | refine below_chain (by assumption) ?_ | refine below_call2 (by assumption) ?_ (by first | omega | (simp; done) | (simp; omega) | (simp [World.setCell]; omega)) | refine below_drewN ?_ _ | refine Below.drew ?_ | refine Below.alloc ?_ (by first | omega | (simp; done) | (simp; omega) | (simp [World.setCell]; omega)) _ | refine Below.setCell ?_ (by first | omega | (simp; done) | (simp; omega) | (simp [World.setCell]; omega)) _))⟩
   ·
    have h2 : decide ((lo : Int) < 4294967296) = false := by simp; omega
    go_enter Tryz.func12, Tryz.ntmps12
    go_wp2_with fail
    go_ret
    exact ⟨by simp [h1], (by repeat (first | exact Below.refl _ _ | assumption | refine below_alloc ?_ _ | refine below_chain (by assumption) ?_ | refine below_call2 (by assumption) ?_ (by first | omega | (simp; done) | (simp; omega) | (simp [World.setCell]; omega)) | refine below_drewN ?_ _ | refine Below.drew ?_ | refine Below.alloc ?_ (by first | omega | (simp; done) | (simp; omega) | (simp [World.setCell]; omega)) _ | refine Below.setCell ?_ (by first | omega | (simp; done) | (simp; omega) | (simp [World.setCell]; omega)) _))⟩
  ·
   have h2 : ((hi : Int) == 0) = false := by simp; omega
   go_enter Tryz.func12, Tryz.ntmps12
   go_wp2_with fail
   go_ret
   exact ⟨by simp [h0], (by repeat (first | exact Below.refl _ _ | assumption | refine below_alloc ?_ _ | refine below_chain (by assumption) ?_ | refine below_call2 (by assumption) ?_ (by first | omega | (simp; done) | (simp; omega) | (simp [World.setCell]; omega)) | refine below_drewN ?_ _ | refine Below.drew ?_ | refine Below.alloc ?_ (by first | omega | (simp; done) | (simp; omega) | (simp [World.setCell]; omega)) _ | refine Below.setCell ?_ (by first | omega | (simp; done) | (simp; omega) | (simp [World.setCell]; omega)) _))⟩
 ·
  go_enter Tryz.func12, Tryz.ntmps12
  go_wp2_with fail
  go_ret
  exact ⟨by simp, (by repeat (first | exact Below.refl _ _ | assumption | refine below_alloc ?_ _ | refine below_chain (by assumption) ?_ | refine below_call2 (by assumption) ?_ (by first | omega | (simp; done) | (simp; omega) | (simp [World.setCell]; omega)) | refine below_drewN ?_ _ | refine Below.drew ?_ | refine Below.alloc ?_ (by first | omega | (simp; done) | (simp; omega) | (simp [World.setCell]; omega)) _ | refine Below.setCell ?_ (by first | omega | (simp; done) | (simp; omega) | (simp [World.setCell]; omega)) _))⟩
def tinB (n m : Int) : Bool := decide (0 ≤ n) && decide (n ≤ m)
structure Tup where
 p : Int
 v : Bool
 hi : Nat
 lo : Nat
 v' : Bool
 hi' : Nat
 lo' : Nat
 sp : Int
 dp : Int
def tupOk (t : Tup) : Bool := tinB t.p 255 && (tinB t.sp 65535 && tinB t.dp 65535) && adrOk t.v t.hi t.lo && adrOk t.v' t.hi' t.lo' && t.v == t.v'
abbrev Tup.val (t : Tup) : Value := .agg #[.int .i64 t.p, .bool t.v, .int .u64 t.hi, .int .u64 t.lo, .bool t.v', .int .u64 t.hi', .int .u64 t.lo', .int .i64 t.sp, .int .i64 t.dp]
abbrev Tup.cells (t : Tup) : List Value := [.int .i64 t.p, .bool t.v, .int .u64 t.hi, .int .u64 t.lo, .bool t.v', .int .u64 t.hi', .int .u64 t.lo', .int .i64 t.sp, .int .i64 t.dp]
def kindN (b : Bool) : Nat := if b then 6 else 4
def tupPut (t : Tup) : List UInt8 := if tupOk t then octB (kindN t.v * 256 + t.p.toNat) 2 ++ adrPut t.v t.hi t.lo ++ adrPut t.v' t.hi' t.lo' ++ octB (t.sp.toNat * 65536 + t.dp.toNat) 4 else []
end Go.Proofs.YtohapcacckapoaaGreat
