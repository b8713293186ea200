/- cookie: the program's functions and the document's. -/
import Derived.Test.YtbmmklgkbbbopaaGreatJ18
import Derived.Test.YtbmmklgkbbbopaaGreatJ15
import Derived.Test.YtbmmklgkbbbopaaGreatJ21
import Derived.Deep.Cut
namespace Go.Proofs.YtbmmklgkbbbopaaGreat
open Go Go.RowKit Go.Deep

/-- A tuple's hash. -/
def hashT (a b : Int) (t : Tup) : Int := sipHash a b ⟨(tupPut t).toArray⟩
theorem hashT_nat (a b : Int) (t : Tup) : ∃ h : Nat, hashT a b t = (h : Int) ∧ h < 18446744073709551616 := sip_rng a b _
abbrev layV (wd : Bool) (sl gn : Int) : Value := .agg #[.bool wd, .int .i64 sl, .int .i64 gn]
def bitsN (wd : Bool) : Int := if wd then 64 else 16
section
variable (wd : Bool) (sl gn : Int) (w : World)
theorem ck_bits : Calls Tryz.prog 104 #[layV wd sl gn] w fun e w' => e = .returned (.int .i64 (bitsN wd)) ∧ Below w.heap.size w w' := by
  cases wd
  all_goals
    go_enter Tryz.func104, Tryz.ntmps104
    go_wp2_with fail
    go_ret
    exact ⟨rfl, (by repeat (first | exact Below.refl _ _ | assumption | refine below_alloc ?_ _ | refine below_chain (by assumption) ?_ | refine below_call2 (by assumption) ?_ (by first | omega | (simp; done) | (simp; omega) | (simp [World.setCell]; omega)) | refine below_drewN ?_ _ | refine Below.drew ?_ | refine Below.alloc ?_ (by first | omega | (simp; done) | (simp; omega) | (simp [World.setCell]; omega)) _ | refine Below.setCell ?_ (by first | omega | (simp; done) | (simp; omega) | (simp [World.setCell]; omega)) _))⟩
set_option maxRecDepth 100000 in
set_option maxHeartbeats 2000000 in
theorem ck_may : Calls Tryz.prog 64 #[layV wd sl gn] w fun e w' => e = .returned (.bool (layOk wd sl gn)) ∧ Below w.heap.size w w' := by
  have BT := Lib.hid fun W => ck_bits wd sl gn W
  have BC := Blk.new w 116 #[.bool wd, .int .i64 sl, .int .i64 gn]
  have hb0 : Below w.heap.size w (w.alloc (.cells #[.bool wd, .int .i64 sl, .int .i64 gn] 116)) := below_alloc (Below.refl _ _) _
  have hlay : layOk wd sl gn = (!(decide (sl < 0)) && !(decide (12 < sl)) && !(decide (gn < 0)) && decide (gn ≤ (if wd then 63 else 16) - sl)) := by
    unfold layOk
    rw [Bool.eq_iff_iff]
    simp only [decide_eq_true_eq, Bool.and_eq_true, Bool.not_eq_true', decide_eq_false_iff_not]
    omega
  by_cases h0 : sl < 0
  · have x0 : decide (sl < 0) = true := by simpa using h0
    rw [x0] at hlay
    replace hlay := Lib.hid hlay
    go_enter Tryz.func64, Tryz.ntmps64
    go_wp2_with fail
    go_ret
    exact ⟨by rw [hlay.out]; rfl, hb0⟩
  have x0 : decide (sl < 0) = false := by simpa using h0
  by_cases h1 : 12 < sl
  · have x1 : decide (12 < sl) = true := by simpa using h1
    rw [x0, x1] at hlay
    replace hlay := Lib.hid hlay
    go_enter Tryz.func64, Tryz.ntmps64
    go_wp2_with fail
    go_ret
    exact ⟨by rw [hlay.out]; rfl, hb0⟩
  have x1 : decide (12 < sl) = false := by simpa using h1
  by_cases h2 : gn < 0
  · have x2 : decide (gn < 0) = true := by simpa using h2
    rw [x0, x1, x2] at hlay
    replace hlay := Lib.hid hlay
    go_enter Tryz.func64, Tryz.ntmps64
    go_wp2_with fail
    go_ret
    exact ⟨by rw [hlay.out]; rfl, hb0⟩
  have x2 : decide (gn < 0) = false := by simpa using h2
  rw [x0, x1, x2] at hlay
  have hw1 : IntKind.i64.wrap (63 - sl) = 63 - sl := by simp [IntKind.wrap, IntKind.bits, IntKind.signed]; omega
  have hw2 : IntKind.i64.wrap (16 - sl) = 16 - sl := by simp [IntKind.wrap, IntKind.bits, IntKind.signed]; omega
  cases wd
  · have hfin : decide (gn ≤ IntKind.i64.wrap (min (bitsN false) 63 - sl)) = layOk false sl gn := by
      rw [hlay, show min (bitsN false) (63 : Int) = 16 from by decide, hw2]
      rfl
    replace hfin := Lib.hid hfin
    clear hlay
    go_enter Tryz.func64, Tryz.ntmps64
    go_upto_region 1 with fail
    generalize w.alloc (.cells #[.bool false, .int .i64 sl, .int .i64 gn] 116) = w1 at *
    obtain ⟨r, hr⟩ : ∃ r, w.heap.size = r := ⟨_, rfl⟩
    rw [hr] at BC
    try rw [hr]
    have c0 := BC.cell 0
    have c1 := BC.cell 1
    have c2 := BC.cell 2
    simp at c0 c1 c2
    go_upto_region 3 with fail
    go_region_held3 (fun W => Below w1.heap.size w1 W ∧ W.cell? ⟨r, 0, none⟩ = some (.bool false) ∧ W.cell? ⟨r, 1, none⟩ = some (.int .i64 sl) ∧ W.cell? ⟨r, 2, none⟩ = some (.int .i64 gn)) (first | ((first | assumption | ((refine ⟨?_, ?_⟩; (first | assumption | exact (Below.refl _ _).drew | exact Below.refl _ _); go_keep))))) (first | (go_at_call 104; (with_reducible refine (BT.out _).mono ?_); rintro e w2 ⟨rfl, hb2⟩; have hS := hold3 (by assumption) hb2))
    go_wp2_with fail
    go_ret
    exact ⟨congrArg (fun b => Ending.returned (Value.bool b)) hfin.out, below_chain hb2 (below_chain (Below.refl _ _).drew hb0)⟩
  · have hfin : decide (gn ≤ IntKind.i64.wrap (min (bitsN true) 63 - sl)) = layOk true sl gn := by
      rw [hlay, show min (bitsN true) (63 : Int) = 63 from by decide, hw1]
      rfl
    replace hfin := Lib.hid hfin
    clear hlay
    go_enter Tryz.func64, Tryz.ntmps64
    go_upto_region 1 with fail
    generalize w.alloc (.cells #[.bool true, .int .i64 sl, .int .i64 gn] 116) = w1 at *
    obtain ⟨r, hr⟩ : ∃ r, w.heap.size = r := ⟨_, rfl⟩
    rw [hr] at BC
    try rw [hr]
    have c0 := BC.cell 0
    have c1 := BC.cell 1
    have c2 := BC.cell 2
    simp at c0 c1 c2
    go_upto_region 3 with fail
    go_region_held3 (fun W => Below w1.heap.size w1 W ∧ W.cell? ⟨r, 0, none⟩ = some (.bool true) ∧ W.cell? ⟨r, 1, none⟩ = some (.int .i64 sl) ∧ W.cell? ⟨r, 2, none⟩ = some (.int .i64 gn)) (first | ((first | assumption | ((refine ⟨?_, ?_⟩; (first | assumption | exact (Below.refl _ _).drew | exact Below.refl _ _); go_keep))))) (first | (go_at_call 104; (with_reducible refine (BT.out _).mono ?_); rintro e w2 ⟨rfl, hb2⟩; have hS := hold3 (by assumption) hb2))
    go_wp2_with fail
    go_ret
    exact ⟨congrArg (fun b => Ending.returned (Value.bool b)) hfin.out, below_chain hb2 (below_chain (Below.refl _ _).drew hb0)⟩
theorem ck_right : Calls Tryz.prog 38 #[layV wd sl gn] w fun e w' => e = .returned (.bool (layOk wd sl gn)) ∧ Below w.heap.size w w' := by
  have MY := Lib.hid fun W => ck_may wd sl gn W
  go_enter Tryz.func38, Tryz.ntmps38
  go_wp2_with (go_at_call 64; (with_reducible refine (MY.out _).mono ?_); rintro e w2 ⟨rfl, hb2⟩)
  go_ret
  exact ⟨rfl, (by repeat (first | exact Below.refl _ _ | assumption | refine below_alloc ?_ _ | refine below_chain (by assumption) ?_ | refine below_call2 (by assumption) ?_ (by first | omega | (simp; done) | (simp; omega) | (simp [World.setCell]; omega)) | refine below_drewN ?_ _ | refine Below.drew ?_ | refine Below.alloc ?_ (by first | omega | (simp; done) | (simp; omega) | (simp [World.setCell]; omega)) _ | refine Below.setCell ?_ (by first | omega | (simp; done) | (simp; omega) | (simp [World.setCell]; omega)) _))⟩
theorem ck_width : Calls Tryz.prog 82 #[layV wd sl gn] w fun e w' => e = .returned (.int .i64 (layW wd sl gn)) ∧ Below w.heap.size w w' := by
  have RT := Lib.hid fun W => ck_right wd sl gn W
  have BT := Lib.hid fun W => ck_bits wd sl gn W
  have BC := Blk.new w 23 #[.bool wd, .int .i64 sl, .int .i64 gn]
  have hb0 : Below w.heap.size w (w.alloc (.cells #[.bool wd, .int .i64 sl, .int .i64 gn] 23)) := below_alloc (Below.refl _ _) _
  have hW : layW wd sl gn = if layOk wd sl gn then bitsN wd else 0 := rfl
  obtain ⟨o, ho⟩ : ∃ o, layOk wd sl gn = o := ⟨_, rfl⟩
  rw [ho] at RT hW
  replace hW := Lib.hid hW
  clear ho
  go_enter Tryz.func82, Tryz.ntmps82
  go_upto_region 1 with fail
  generalize w.alloc (.cells #[.bool wd, .int .i64 sl, .int .i64 gn] 23) = w1 at *
  obtain ⟨r, hr⟩ : ∃ r, w.heap.size = r := ⟨_, rfl⟩
  rw [hr] at BC
  try rw [hr]
  have CC := Lib.hid fun W (h : Below w1.heap.size w1 W) => show W.cell? ⟨r, 0, none⟩ = some (.bool wd) ∧ W.cell? ⟨r, 1, none⟩ = some (.int .i64 sl) ∧ W.cell? ⟨r, 2, none⟩ = some (.int .i64 gn) from ⟨(BC.call h).cell 0, (BC.call h).cell 1, (BC.call h).cell 2⟩
  clear BC
  obtain ⟨c0, c1, c2⟩ := CC.out w1 (Below.refl _ _)
  cases o
  all_goals
    go_wp2_with (first
      | (go_at_call 38; (with_reducible refine (RT.out _).mono ?_); rintro e w2 ⟨rfl, hb2⟩; clear c0 c1 c2; obtain ⟨c0, c1, c2⟩ := CC.out w2 hb2)
      | (go_at_call 104; (with_reducible refine (BT.out _).mono ?_); rintro e w3 ⟨rfl, hb3⟩))
    go_ret
    exact ⟨by rw [hW.out]; rfl, (by repeat (first | exact Below.refl _ _ | assumption | refine below_alloc ?_ _ | refine below_chain (by assumption) ?_ | refine below_call2 (by assumption) ?_ (by first | omega | (simp; done) | (simp; omega) | (simp [World.setCell]; omega)) | refine below_drewN ?_ _ | refine Below.drew ?_ | refine Below.alloc ?_ (by first | omega | (simp; done) | (simp; omega) | (simp [World.setCell]; omega)) _ | refine Below.setCell ?_ (by first | omega | (simp; done) | (simp; omega) | (simp [World.setCell]; omega)) _))⟩
end
/-- Where a payload may be made. -/
def packOk (wd : Bool) (sl gn slot : Int) : Bool := layOk wd sl gn && decide (0 ≤ slot ∧ slot < 2 ^ sl.toNat)
def packI (wd : Bool) (sl gn slot gen : Int) : Int := if packOk wd sl gn slot then ((packV sl.toNat gn.toNat slot.toNat gen.toNat : Nat) : Int) else 0
theorem packOk_nat {wd : Bool} {sl gn slot : Int} (h : packOk wd sl gn slot = true) : ∃ a b c : Nat, sl = a ∧ gn = b ∧ slot = c ∧ a ≤ 12 ∧ a + b ≤ (if wd then 63 else 16) ∧ c < 2 ^ a := by
  unfold packOk at h
  rw [Bool.and_eq_true, decide_eq_true_eq] at h
  obtain ⟨a, b, rfl, rfl, h1, h2⟩ := layOk_nat h.1
  refine ⟨a, b, slot.toNat, rfl, rfl, by omega, h1, h2, ?_⟩
  have h3 := h.2.2
  rw [Int.toNat_natCast] at h3
  have : ((slot.toNat : Nat) : Int) < ((2 ^ a : Nat) : Int) := by
    rw [Int.toNat_of_nonneg h.2.1]
    simpa using h3
  exact_mod_cast this
theorem packI_eq {wd : Bool} {a b c g : Nat} (h : packOk wd a b c = true) : packI wd a b c g = ((packV a b c g : Nat) : Int) := by
  unfold packI
  rw [if_pos h]
  rfl
theorem shr_zero (a c : Nat) : ((c : Int) / 2 ^ a != 0) = !decide (c < 2 ^ a) := by
  have h0 : 0 < 2 ^ a := Nat.pow_pos (by omega)
  have e : (c : Int) / 2 ^ a = ((c / 2 ^ a : Nat) : Int) := by simp
  rw [e]
  by_cases h : c < 2 ^ a
  · rw [Nat.div_eq_of_lt h]
    simp [h]
  · have h1 : 1 ≤ c / 2 ^ a := (Nat.le_div_iff_mul_le h0).2 (by omega)
    have h2 : ((c / 2 ^ a : Nat) : Int) ≠ 0 := by omega
    simp only [ne_eq, h2, not_false_eq_true, h, decide_false, Bool.not_false, bne, beq_eq_false_iff_ne, Bool.not_eq_true']
set_option maxRecDepth 100000 in
set_option maxHeartbeats 4000000 in
theorem ck_pack (wd : Bool) (sl gn slot : Int) (g : Nat) (hg : g < 18446744073709551616) (w : World) : Calls Tryz.prog 101 #[layV wd sl gn, .int .i64 slot, .int .u64 (g : Int)] w fun e w' => e = .returned (.tuple #[.int .u64 (packI wd sl gn slot g), .bool (packOk wd sl gn slot)]) ∧ Below w.heap.size w w' := by
  have RT := Lib.hid fun W => ck_right wd sl gn W
  have BC := Blk.new w 23 #[.bool wd, .int .i64 sl, .int .i64 gn]
  have hb0 : Below w.heap.size w (w.alloc (.cells #[.bool wd, .int .i64 sl, .int .i64 gn] 23)) := below_alloc (Below.refl _ _) _
  obtain ⟨o, ho⟩ : ∃ o, layOk wd sl gn = o := ⟨_, rfl⟩
  cases o
  · have hP : packOk wd sl gn slot = false := by unfold packOk; rw [ho]; rfl
    have hI : packI wd sl gn slot g = 0 := by unfold packI; rw [hP]; rfl
    rw [ho] at RT
    rw [hP, hI]
    clear hP hI ho
    go_enter Tryz.func101, Tryz.ntmps101
    go_upto_region 1 with fail
    generalize w.alloc (.cells #[.bool wd, .int .i64 sl, .int .i64 gn] 23) = w1 at *
    obtain ⟨r, hr⟩ : ∃ r, w.heap.size = r := ⟨_, rfl⟩
    rw [hr] at BC
    try rw [hr]
    have c0 := BC.cell 0
    have c1 := BC.cell 1
    have c2 := BC.cell 2
    simp at c0 c1 c2
    go_wp2_with (go_at_call 38; (with_reducible refine (RT.out _).mono ?_); rintro e w2 ⟨rfl, hb2⟩)
    go_ret2
    exact ⟨rfl, (by repeat (first | exact Below.refl _ _ | assumption | refine below_alloc ?_ _ | refine below_chain (by assumption) ?_ | refine below_call2 (by assumption) ?_ (by first | omega | (simp; done) | (simp; omega) | (simp [World.setCell]; omega)) | refine below_drewN ?_ _ | refine Below.drew ?_ | refine Below.alloc ?_ (by first | omega | (simp; done) | (simp; omega) | (simp [World.setCell]; omega)) _ | refine Below.setCell ?_ (by first | omega | (simp; done) | (simp; omega) | (simp [World.setCell]; omega)) _))⟩
  · obtain ⟨a, b, rfl, rfl, ha, hab⟩ := layOk_nat ho
    have hab2 : a + b ≤ 63 := Nat.le_trans hab (by split <;> omega)
    have hPq : packOk wd a b slot = decide (0 ≤ slot ∧ slot < 2 ^ a) := by unfold packOk; rw [ho, Int.toNat_natCast]; rfl
    rw [ho] at RT
    have ha0 : (0 : Int) ≤ (a : Int) := by omega
    by_cases hs0 : slot < 0
    · have hP : packOk wd a b slot = false := by rw [hPq]; simp; omega
      have hI : packI wd a b slot g = 0 := by unfold packI; rw [hP]; rfl
      have x0 : decide (slot < 0) = true := by simpa using hs0
      rw [hP, hI]
      clear hP hI ho hPq
      go_enter Tryz.func101, Tryz.ntmps101
      go_upto_region 1 with fail
      generalize w.alloc (.cells #[.bool wd, .int .i64 (a : Int), .int .i64 (b : Int)] 23) = w1 at *
      obtain ⟨r, hr⟩ : ∃ r, w.heap.size = r := ⟨_, rfl⟩
      rw [hr] at BC
      try rw [hr]
      have c0 := BC.cell 0
      have c1 := BC.cell 1
      have c2 := BC.cell 2
      simp at c0 c1 c2
      go_wp2_with (go_at_call 38; (with_reducible refine (RT.out _).mono ?_); rintro e w2 ⟨rfl, hb2⟩)
      go_ret2
      exact ⟨rfl, (by repeat (first | exact Below.refl _ _ | assumption | refine below_alloc ?_ _ | refine below_chain (by assumption) ?_ | refine below_call2 (by assumption) ?_ (by first | omega | (simp; done) | (simp; omega) | (simp [World.setCell]; omega)) | refine below_drewN ?_ _ | refine Below.drew ?_ | refine Below.alloc ?_ (by first | omega | (simp; done) | (simp; omega) | (simp [World.setCell]; omega)) _ | refine Below.setCell ?_ (by first | omega | (simp; done) | (simp; omega) | (simp [World.setCell]; omega)) _))⟩
    · obtain ⟨c, rfl⟩ : ∃ c : Nat, slot = c := ⟨slot.toNat, by omega⟩
      have x0 : decide ((c : Int) < 0) = false := by simp
      have hsh := shr_zero a c
      by_cases hc : c < 2 ^ a
      · have hP : packOk wd a b c = true := by
          rw [hPq, decide_eq_true_eq]
          refine ⟨by omega, ?_⟩
          have : ((c : Nat) : Int) < ((2 ^ a : Nat) : Int) := by exact_mod_cast hc
          simpa using this
        have hI := packI_eq (g := g) hP
        have hpc := pack_code a b c g hab2 hc hg
        rw [show decide (c < 2 ^ a) = true from decide_eq_true hc] at hsh
        have MK := Lib.hid fun W => (mask_any (b : Int) W).mono fun _ _ h => And.intro h.1 h.2.symm
        have hcw : IntKind.u64.wrap (c : Int) = (c : Int) := wrapN c (by have := pow63 a (by omega); omega)
        rw [hP, hI]
        replace hpc := Lib.hid hpc
        clear hP hI ho hPq
        go_enter Tryz.func101, Tryz.ntmps101
        go_upto_region 1 with fail
        generalize w.alloc (.cells #[.bool wd, .int .i64 (a : Int), .int .i64 (b : Int)] 23) = w1 at *
        obtain ⟨r, hr⟩ : ∃ r, w.heap.size = r := ⟨_, rfl⟩
        rw [hr] at BC
        try rw [hr]
        have CC := Lib.hid fun W (h : Below w1.heap.size w1 W) => show W.cell? ⟨r, 0, none⟩ = some (.bool wd) ∧ W.cell? ⟨r, 1, none⟩ = some (.int .i64 (a : Int)) ∧ W.cell? ⟨r, 2, none⟩ = some (.int .i64 (b : Int)) from ⟨(BC.call h).cell 0, (BC.call h).cell 1, (BC.call h).cell 2⟩
        clear BC
        obtain ⟨c0, c1, c2⟩ := CC.out w1 (Below.refl _ _)
        go_upto_region 3 with (go_at_call 38; (with_reducible refine (RT.out _).mono ?_); rintro e w2 ⟨rfl, hb2⟩; clear c0 c1 c2; obtain ⟨c0, c1, c2⟩ := CC.out w2 hb2)
        go_quiet (first | (go_at_call 81; with_reducible exact Calls.quiet_of_same (MK.out _)))
        go_wp2_with fail
        go_ret2
        exact ⟨congrArg (fun x => Ending.returned (Value.tuple #[.int .u64 x, .bool true])) hpc.out, (by repeat (first | exact Below.refl _ _ | assumption | refine below_alloc ?_ _ | refine below_chain (by assumption) ?_ | refine below_call2 (by assumption) ?_ (by first | omega | (simp; done) | (simp; omega) | (simp [World.setCell]; omega)) | refine below_drewN ?_ _ | refine Below.drew ?_ | refine Below.alloc ?_ (by first | omega | (simp; done) | (simp; omega) | (simp [World.setCell]; omega)) _ | refine Below.setCell ?_ (by first | omega | (simp; done) | (simp; omega) | (simp [World.setCell]; omega)) _))⟩
      · have hP : packOk wd a b c = false := by
          rw [hPq, decide_eq_false_iff_not]
          rintro ⟨-, h⟩
          have : ((c : Nat) : Int) < ((2 ^ a : Nat) : Int) := by simpa using h
          omega
        have hI : packI wd a b c g = 0 := by unfold packI; rw [hP]; rfl
        rw [show decide (c < 2 ^ a) = false from decide_eq_false hc] at hsh
        rw [hP, hI]
        clear hP hI ho hPq
        go_enter Tryz.func101, Tryz.ntmps101
        go_upto_region 1 with fail
        generalize w.alloc (.cells #[.bool wd, .int .i64 (a : Int), .int .i64 (b : Int)] 23) = w1 at *
        obtain ⟨r, hr⟩ : ∃ r, w.heap.size = r := ⟨_, rfl⟩
        rw [hr] at BC
        try rw [hr]
        have CC := Lib.hid fun W (h : Below w1.heap.size w1 W) => show W.cell? ⟨r, 0, none⟩ = some (.bool wd) ∧ W.cell? ⟨r, 1, none⟩ = some (.int .i64 (a : Int)) ∧ W.cell? ⟨r, 2, none⟩ = some (.int .i64 (b : Int)) from ⟨(BC.call h).cell 0, (BC.call h).cell 1, (BC.call h).cell 2⟩
        clear BC
        obtain ⟨c0, c1, c2⟩ := CC.out w1 (Below.refl _ _)
        go_wp2_with (go_at_call 38; (with_reducible refine (RT.out _).mono ?_); rintro e w2 ⟨rfl, hb2⟩; clear c0 c1 c2; obtain ⟨c0, c1, c2⟩ := CC.out w2 hb2)
        go_ret2
        exact ⟨rfl, (by repeat (first | exact Below.refl _ _ | assumption | refine below_alloc ?_ _ | refine below_chain (by assumption) ?_ | refine below_call2 (by assumption) ?_ (by first | omega | (simp; done) | (simp; omega) | (simp [World.setCell]; omega)) | refine below_drewN ?_ _ | refine Below.drew ?_ | refine Below.alloc ?_ (by first | omega | (simp; done) | (simp; omega) | (simp [World.setCell]; omega)) _ | refine Below.setCell ?_ (by first | omega | (simp; done) | (simp; omega) | (simp [World.setCell]; omega)) _))⟩
end Go.Proofs.YtbmmklgkbbbopaaGreat
