/- cookie: the program's functions and the document's. cookie: Unpack, Mask, Make, Open. -/
import Derived.Test.YtohapcacckapoaaGreatJ24
import Derived.Test.YtohapcacckapoaaGreatJ18
import Derived.Test.YtohapcacckapoaaGreatJ26
import Derived.Deep.Cut
namespace Go.Proofs.YtohapcacckapoaaGreat
open Go Go.RowKit Go.Deep
def hashT (a b : Int) (t : Tup) : Int := sipHash a b ⟨(tupPut t).toArray⟩
abbrev layV (wd : Bool) (sl gn : Int) : Value := .agg #[.bool wd, .int .i64 sl, .int .i64 gn]
def bitsN (wd : Bool) : Int := if wd then 64 else 16
section
variable (wd : Bool) (sl gn : Int) (w : World)
theorem ck_bits : Calls Tryz.prog 131 #[layV wd sl gn] w fun e w' => e = .returned (.int .i64 (bitsN wd)) ∧ Below w.heap.size w w' := by
 cases wd
 all_goals
  go_enter Tryz.func131, Tryz.ntmps131
  go_wp2_with fail
  go_ret
  exact ⟨rfl, (by repeat (first | exact Below.refl _ _ | assumption | refine below_alloc ?_ _ | refine below_chain (by assumption) ?_ | refine below_call2 (by assumption) ?_ (by first | omega | (simp; done) | (simp; omega) | (simp [World.setCell]; omega)) | refine below_drewN ?_ _ | refine Below.drew ?_ | refine Below.alloc ?_ (by first | omega | (simp; done) | (simp; omega) | (simp [World.setCell]; omega)) _ | refine Below.setCell ?_ (by first | omega | (simp; done) | (simp; omega) | (simp [World.setCell]; omega)) _))⟩
set_option maxRecDepth 100000 in
set_option maxHeartbeats 2000000 in
theorem ck_may : Calls Tryz.prog 116 #[layV wd sl gn] w fun e w' => e = .returned (.bool (layOk wd sl gn)) ∧ Below w.heap.size w w' := by
 have BT := Lib.hid fun W => ck_bits wd sl gn W
 have BC := Blk.new w 204 #[.bool wd, .int .i64 sl, .int .i64 gn]
 have hb0 : Below w.heap.size w (w.alloc (.cells #[.bool wd, .int .i64 sl, .int .i64 gn] 204)) := below_alloc (Below.refl _ _) _
 have hlay : layOk wd sl gn = (!(decide (sl < 0)) && !(decide (12 < sl)) && !(decide (gn < 0)) && decide (gn ≤ (if wd then 63 else 16) - sl)) := by
  unfold layOk
  rw [Bool.eq_iff_iff]
  simp only [decide_eq_true_eq, Bool.and_eq_true, Bool.not_eq_true', decide_eq_false_iff_not]
  omega
 by_cases h0 : sl < 0
 ·
  have x0 : decide (sl < 0) = true := by simpa using h0
  rw [x0] at hlay
  replace hlay := Lib.hid hlay
  go_enter Tryz.func116, Tryz.ntmps116
  go_wp2_with fail
  go_ret
  exact ⟨by rw [hlay.out]; rfl, hb0⟩
 have x0 : decide (sl < 0) = false := by simpa using h0
 by_cases h1 : 12 < sl
 ·
  have x1 : decide (12 < sl) = true := by simpa using h1
  rw [x0, x1] at hlay
  replace hlay := Lib.hid hlay
  go_enter Tryz.func116, Tryz.ntmps116
  go_wp2_with fail
  go_ret
  exact ⟨by rw [hlay.out]; rfl, hb0⟩
 have x1 : decide (12 < sl) = false := by simpa using h1
 by_cases h2 : gn < 0
 ·
  have x2 : decide (gn < 0) = true := by simpa using h2
  rw [x0, x1, x2] at hlay
  replace hlay := Lib.hid hlay
  go_enter Tryz.func116, Tryz.ntmps116
  go_wp2_with fail
  go_ret
  exact ⟨by rw [hlay.out]; rfl, hb0⟩
 have x2 : decide (gn < 0) = false := by simpa using h2
 rw [x0, x1, x2] at hlay
 have hw1 : IntKind.i64.wrap (63 - sl) = 63 - sl := by simp [IntKind.wrap, IntKind.bits, IntKind.signed]; omega
 have hw2 : IntKind.i64.wrap (16 - sl) = 16 - sl := by simp [IntKind.wrap, IntKind.bits, IntKind.signed]; omega
 cases wd
 ·
  have hfin : decide (gn ≤ IntKind.i64.wrap (min (bitsN false) 63 - sl)) = layOk false sl gn := by
   rw [hlay, show min (bitsN false) (63 : Int) = 16 from by decide, hw2]
   rfl
  replace hfin := Lib.hid hfin
  clear hlay
  go_enter Tryz.func116, Tryz.ntmps116
  go_upto_region 1 with fail
  generalize w.alloc (.cells #[.bool false, .int .i64 sl, .int .i64 gn] 204) = w1 at *
  obtain ⟨r, hr⟩ : ∃ r, w.heap.size = r := ⟨_, rfl⟩
  rw [hr] at BC
  try rw [hr]
  have c0 := BC.cell 0
  have c1 := BC.cell 1
  have c2 := BC.cell 2
  simp at c0 c1 c2
  go_upto_region 3 with fail
  go_region_held3 (fun W => Below w1.heap.size w1 W ∧ W.cell? ⟨r, 0, none⟩ = some (.bool false) ∧ W.cell? ⟨r, 1, none⟩ = some (.int .i64 sl) ∧ W.cell? ⟨r, 2, none⟩ = some (.int .i64 gn)) (first | ((first | assumption | ((refine ⟨?_, ?_⟩; (first | assumption | exact (Below.refl _ _).drew | exact Below.refl _ _); go_keep))))) (first | (go_at_call 131; (with_reducible refine (BT.out _).mono ?_); rintro e w2 ⟨rfl, hb2⟩; have hS := hold3 (by assumption) hb2))
  go_wp2_with fail
  go_ret
  exact ⟨congrArg (fun b => Ending.returned (Value.bool b)) hfin.out, below_chain hb2 (below_chain (Below.refl _ _).drew hb0)⟩
 ·
  have hfin : decide (gn ≤ IntKind.i64.wrap (min (bitsN true) 63 - sl)) = layOk true sl gn := by
   rw [hlay, show min (bitsN true) (63 : Int) = 63 from by decide, hw1]
   rfl
  replace hfin := Lib.hid hfin
  clear hlay
  go_enter Tryz.func116, Tryz.ntmps116
  go_upto_region 1 with fail
  generalize w.alloc (.cells #[.bool true, .int .i64 sl, .int .i64 gn] 204) = w1 at *
  obtain ⟨r, hr⟩ : ∃ r, w.heap.size = r := ⟨_, rfl⟩
  rw [hr] at BC
  try rw [hr]
  have c0 := BC.cell 0
  have c1 := BC.cell 1
  have c2 := BC.cell 2
  simp at c0 c1 c2
  go_upto_region 3 with fail
  go_region_held3 (fun W => Below w1.heap.size w1 W ∧ W.cell? ⟨r, 0, none⟩ = some (.bool true) ∧ W.cell? ⟨r, 1, none⟩ = some (.int .i64 sl) ∧ W.cell? ⟨r, 2, none⟩ = some (.int .i64 gn)) (first | ((first | assumption | ((refine ⟨?_, ?_⟩; (first | assumption | exact (Below.refl _ _).drew | exact Below.refl _ _); go_keep))))) (first | (go_at_call 131; (with_reducible refine (BT.out _).mono ?_); rintro e w2 ⟨rfl, hb2⟩; have hS := hold3 (by assumption) hb2))
  go_wp2_with fail
  go_ret
  exact ⟨congrArg (fun b => Ending.returned (Value.bool b)) hfin.out, below_chain hb2 (below_chain (Below.refl _ _).drew hb0)⟩
theorem ck_right : Calls Tryz.prog 97 #[layV wd sl gn] w fun e w' => e = .returned (.bool (layOk wd sl gn)) ∧ Below w.heap.size w w' := by
 have MY := Lib.hid fun W => ck_may wd sl gn W
 go_enter Tryz.func97, Tryz.ntmps97
 go_wp2_with (go_at_call 116; (with_reducible refine (MY.out _).mono ?_); rintro e w2 ⟨rfl, hb2⟩)
 go_ret
 exact ⟨rfl, (by repeat (first | exact Below.refl _ _ | assumption | refine below_alloc ?_ _ | refine below_chain (by assumption) ?_ | refine below_call2 (by assumption) ?_ (by first | omega | (simp; done) | (simp; omega) | (simp [World.setCell]; omega)) | refine below_drewN ?_ _ | refine Below.drew ?_ | refine Below.alloc ?_ (by first | omega | (simp; done) | (simp; omega) | (simp [World.setCell]; omega)) _ | refine Below.setCell ?_ (by first | omega | (simp; done) | (simp; omega) | (simp [World.setCell]; omega)) _))⟩
end
def packOk (wd : Bool) (sl gn slot : Int) : Bool := layOk wd sl gn && decide (0 ≤ slot ∧ slot < 2 ^ sl.toNat)
def packI (wd : Bool) (sl gn slot gen : Int) : Int := if packOk wd sl gn slot then ((packV sl.toNat gn.toNat slot.toNat gen.toNat : Nat) : Int) else 0
def unpOk (wd : Bool) (sl gn : Int) (p : Nat) : Bool := layOk wd sl gn && decide (p < 2 ^ (sl.toNat + gn.toNat))
def unpS (wd : Bool) (sl gn : Int) (p : Nat) : Int := if unpOk wd sl gn p then ((p % 2 ^ sl.toNat : Nat) : Int) else 0
def unpG (wd : Bool) (sl gn : Int) (p : Nat) : Int := if unpOk wd sl gn p then ((p / 2 ^ sl.toNat : Nat) : Int) else 0
def cookM (wd : Bool) (sl gn a b : Int) (t : Tup) (n : Int) : Int := bits BinOp.and IntKind.u64 (bits BinOp.xor IntKind.u64 n (hashT a b t)) (maskI (layW wd sl gn))
def makeI (wd : Bool) (sl gn a b : Int) (t : Tup) (slot gen : Int) : Int := if packOk wd sl gn slot then cookM wd sl gn a b t (packI wd sl gn slot gen) else 0
def narrowOk (wd : Bool) (sl gn n : Int) : Bool := bits BinOp.andNot IntKind.u64 n (maskI (layW wd sl gn)) == 0
def openOkC (wd : Bool) (sl gn a b : Int) (t : Tup) (n : Int) : Bool := narrowOk wd sl gn n && unpOk wd sl gn (cookM wd sl gn a b t n).toNat
def openSl (wd : Bool) (sl gn a b : Int) (t : Tup) (n : Int) : Int := if narrowOk wd sl gn n then unpS wd sl gn (cookM wd sl gn a b t n).toNat else 0
def openGn (wd : Bool) (sl gn a b : Int) (t : Tup) (n : Int) : Int := if narrowOk wd sl gn n then unpG wd sl gn (cookM wd sl gn a b t n).toNat else 0
end Go.Proofs.YtohapcacckapoaaGreat
