/- addr: the law AddrTells, called. -/
import Derived.Test.YtodbgjnccngljaaDoorAdQ
import Derived.Test.YtodbgjnccngljaaDoorHold
namespace Go.Proofs.YtodbgjnccngljaaDoor
open Go Go.RowKit Go.Deep

theorem adr_form (o : Option (Bool × Nat × Nat)) : ∃ v hi lo p, adrT o = .tuple #[.agg #[.bool v, .int .u64 ((hi : Nat) : Int), .int .u64 ((lo : Nat) : Int)], .bool p] := by
  rcases o with _ | ⟨v, hi, lo⟩
  · exact ⟨false, 0, 0, false, rfl⟩
  · exact ⟨v, hi, lo, true, rfl⟩

set_option maxRecDepth 100000 in
set_option maxHeartbeats 32000000 in
theorem addrTells_calls (v : Bool) (hi lo : Nat) (v' : Bool) (hi' lo' : Nat) (l : List UInt8) (w : World) (hw : Std w) (h1 : hi < 18446744073709551616) (h2 : lo < 18446744073709551616) (hL : l.length ≤ 9223372036854775807) :
    Calls Tryd.prog 3 #[.agg #[.bool v, .int .u64 (hi : Nat), .int .u64 (lo : Nat)], .agg #[.bool v', .int .u64 (hi' : Nat), .int .u64 (lo' : Nat)], .string ⟨l.toArray⟩] w fun e w' => e = .returned (.bool true) ∧ Below w.heap.size w w' := by
  have hsl : (ByteArray.mk l.toArray).size = l.length := rfl
  have K3 := (Blk.new w 24 #[.bool v, .int .u64 (hi : Nat), .int .u64 (lo : Nat)]).alloc (.cells #[.bool v', .int .u64 (hi' : Nat), .int .u64 (lo' : Nat)] 24)
  have K4 := Blk.new (w.alloc (.cells #[.bool v, .int .u64 (hi : Nat), .int .u64 (lo : Nat)] 24)) 24 #[.bool v', .int .u64 (hi' : Nat), .int .u64 (lo' : Nat)]
  have hs0 : (w.alloc (.cells #[.bool v, .int .u64 (hi : Nat), .int .u64 (lo : Nat)] 24)).heap.size = w.heap.size + 1 := by simp
  have hbA := below_alloc (below_alloc (Below.refl w.heap.size w) (.cells #[.bool v, .int .u64 (hi : Nat), .int .u64 (lo : Nat)] 24)) (.cells #[.bool v', .int .u64 (hi' : Nat), .int .u64 (lo' : Nat)] 24)
  rw [hs0] at K4
  by_cases h60 : 60 < l.length
  · have g : (60 : Int) < (l.length : Int) := by omega
    have A := Lib.hid (awake04 _ (hw.below hbA))
    clear K3 K4
    go_enter Tryd.func3, Tryd.ntmps3
    go_wp2_with (go_at_call 6; (with_reducible refine A.out.mono ?_); rintro e w1 ⟨rfl, hb1⟩)
    go_ret
    exact ⟨rfl, below_chain hb1 hbA⟩
  have g : ¬ (60 : Int) < (l.length : Int) := by omega
  obtain ⟨x1, x2, x3, xp, hx⟩ := adr_form (getA l)
  obtain ⟨z1, z2, z3, zp, hz⟩ := adr_form (readA l)
  have G1 := fun W => addr_get l W
  have G2 := fun W => refaddr_get l W
  have R1 := fun W hW => addr_read l W hW (by omega)
  have R2 := fun W => refaddr_read l W (by omega)
  rw [hx] at G1 G2
  rw [hz] at R1 R2
  have E1 := fun W => adr_eql x1 x2 x3 x1 x2 x3 W
  have E2 := fun W => adr_eql z1 z2 z3 z1 z2 z3 W
  rw [adrB_self] at E1 E2
  have hG := adr_guard
  have RT1 := fun W => addr_right v hi lo W
  have RT2 := fun W => refaddr_right v hi lo W
  have P1 := fun W => addr_put v hi lo W
  have P2 := fun W => refaddr_put v hi lo W h1 h2
  have T1 := fun W hW => addr_text v hi lo W hW
  have T2 := fun W => refaddr_text v hi lo W h1 h2
  have L1 := fun W => addr_less v v' hi lo hi' lo' W
  have L2 := fun W => refaddr_less v v' hi lo hi' lo' W
  generalize (if v = v' then decide (hi < hi') || (decide (hi = hi') && decide (lo < lo')) else v') = lb at L1 L2
  generalize adrOk v hi lo = ok at RT1 RT2
  generalize adrPut v hi lo = pb at P1 P2
  generalize adrTxt v hi lo = tb at T1 T2
  have e1 : (ok == ok) = true := by simp
  have e2 : (pb == pb) = true := by simp
  have e3 : (tb == tb) = true := by simp
  have e4 : (xp == xp) = true := by simp
  have e5 : (zp == zp) = true := by simp
  have e6 : (lb == lb) = true := by simp
  have AW := Lib.hid awake04
  replace G1 := Lib.hid G1
  replace G2 := Lib.hid G2
  replace R1 := Lib.hid R1
  replace R2 := Lib.hid R2
  replace RT1 := Lib.hid RT1
  replace RT2 := Lib.hid RT2
  replace P1 := Lib.hid P1
  replace P2 := Lib.hid P2
  replace T1 := Lib.hid T1
  replace T2 := Lib.hid T2
  replace L1 := Lib.hid L1
  replace L2 := Lib.hid L2
  replace hw := Lib.hid hw
  clear hx hz
  go_enter Tryd.func3, Tryd.ntmps3
  go_upto_region 4 with (go_at_call 7; (with_reducible refine (G1.out _).mono ?_); rintro e w1 ⟨rfl, hb1⟩)
  replace K3 := (K3.call hb1).alloc (.cells #[.bool x1, .int .u64 (x2 : Nat), .int .u64 (x3 : Nat)] 24)
  replace K4 := (K4.call hb1).alloc (.cells #[.bool x1, .int .u64 (x2 : Nat), .int .u64 (x3 : Nat)] 24)
  have K7 := Blk.new w1 24 #[.bool x1, .int .u64 (x2 : Nat), .int .u64 (x3 : Nat)]
  replace hbA := below_alloc (below_chain hb1 hbA) (.cells #[.bool x1, .int .u64 (x2 : Nat), .int .u64 (x3 : Nat)] 24)
  clear hb1
  generalize w1.alloc (.cells #[.bool x1, .int .u64 (x2 : Nat), .int .u64 (x3 : Nat)] 24) = w2 at *
  generalize w1.heap.size = g1 at *
  go_upto_region 5 with (go_at_call 8; (with_reducible refine (G2.out _).mono ?_); rintro e w3 ⟨rfl, hb3⟩)
  replace K3 := (K3.call hb3).alloc (.cells #[.bool x1, .int .u64 (x2 : Nat), .int .u64 (x3 : Nat)] 24)
  replace K4 := (K4.call hb3).alloc (.cells #[.bool x1, .int .u64 (x2 : Nat), .int .u64 (x3 : Nat)] 24)
  replace K7 := (K7.call hb3).alloc (.cells #[.bool x1, .int .u64 (x2 : Nat), .int .u64 (x3 : Nat)] 24)
  have K9 := Blk.new w3 24 #[.bool x1, .int .u64 (x2 : Nat), .int .u64 (x3 : Nat)]
  replace hbA := below_alloc (below_chain hb3 hbA) (.cells #[.bool x1, .int .u64 (x2 : Nat), .int .u64 (x3 : Nat)] 24)
  clear hb3
  generalize w3.alloc (.cells #[.bool x1, .int .u64 (x2 : Nat), .int .u64 (x3 : Nat)] 24) = w4 at *
  generalize w3.heap.size = g3 at *
  go_upto_region 6 with (go_at_call 9; (with_reducible refine (R1.out _ (hw.out.below hbA)).mono ?_); rintro e w5 ⟨rfl, hb5⟩)
  replace K3 := (K3.call hb5).alloc (.cells #[.bool z1, .int .u64 (z2 : Nat), .int .u64 (z3 : Nat)] 24)
  replace K4 := (K4.call hb5).alloc (.cells #[.bool z1, .int .u64 (z2 : Nat), .int .u64 (z3 : Nat)] 24)
  replace K7 := (K7.call hb5).alloc (.cells #[.bool z1, .int .u64 (z2 : Nat), .int .u64 (z3 : Nat)] 24)
  replace K9 := (K9.call hb5).alloc (.cells #[.bool z1, .int .u64 (z2 : Nat), .int .u64 (z3 : Nat)] 24)
  have K11 := Blk.new w5 24 #[.bool z1, .int .u64 (z2 : Nat), .int .u64 (z3 : Nat)]
  replace hbA := below_alloc (below_chain hb5 hbA) (.cells #[.bool z1, .int .u64 (z2 : Nat), .int .u64 (z3 : Nat)] 24)
  clear hb5
  generalize w5.alloc (.cells #[.bool z1, .int .u64 (z2 : Nat), .int .u64 (z3 : Nat)] 24) = w6 at *
  generalize w5.heap.size = g5 at *
  go_upto_region 7 with (go_at_call 10; (with_reducible refine (R2.out _).mono ?_); rintro e w7 ⟨rfl, hb7⟩)
  replace K3 := (K3.call hb7).alloc (.cells #[.bool z1, .int .u64 (z2 : Nat), .int .u64 (z3 : Nat)] 24)
  replace K4 := (K4.call hb7).alloc (.cells #[.bool z1, .int .u64 (z2 : Nat), .int .u64 (z3 : Nat)] 24)
  replace K7 := (K7.call hb7).alloc (.cells #[.bool z1, .int .u64 (z2 : Nat), .int .u64 (z3 : Nat)] 24)
  replace K9 := (K9.call hb7).alloc (.cells #[.bool z1, .int .u64 (z2 : Nat), .int .u64 (z3 : Nat)] 24)
  replace K11 := (K11.call hb7).alloc (.cells #[.bool z1, .int .u64 (z2 : Nat), .int .u64 (z3 : Nat)] 24)
  have K13 := Blk.new w7 24 #[.bool z1, .int .u64 (z2 : Nat), .int .u64 (z3 : Nat)]
  replace hbA := below_alloc (below_chain hb7 hbA) (.cells #[.bool z1, .int .u64 (z2 : Nat), .int .u64 (z3 : Nat)] 24)
  clear hb7
  generalize w7.alloc (.cells #[.bool z1, .int .u64 (z2 : Nat), .int .u64 (z3 : Nat)] 24) = w8 at *
  generalize w7.heap.size = g7 at *
  obtain ⟨⟨c0, c1, c2⟩, -, -, -⟩ := blk3 K3
  obtain ⟨⟨c3, c4, c5⟩, -, -, -⟩ := blk3 K4
  obtain ⟨⟨c6, c7, c8⟩, -, -, -⟩ := blk3 K7
  obtain ⟨⟨c9, c10, c11⟩, -, -, -⟩ := blk3 K9
  obtain ⟨⟨c12, c13, c14⟩, -, -, -⟩ := blk3 K11
  obtain ⟨⟨c15, c16, c17⟩, -, -, -⟩ := blk3 K13
  clear K3 K4 K7 K9 K11 K13
  have hw8 := Lib.hid (hw.out.below hbA)
  replace hbA := Lib.hid hbA
  have hS0 : Below w8.heap.size w8 w8.drew ∧ w8.drew.cell? ⟨w.heap.size, 0, none⟩ = some (.bool v) ∧ w8.drew.cell? ⟨w.heap.size, 1, none⟩ = some (.int .u64 (hi : Nat)) ∧ w8.drew.cell? ⟨w.heap.size, 2, none⟩ = some (.int .u64 (lo : Nat)) ∧ w8.drew.cell? ⟨(w.heap.size + 1), 0, none⟩ = some (.bool v') ∧ w8.drew.cell? ⟨(w.heap.size + 1), 1, none⟩ = some (.int .u64 (hi' : Nat)) ∧ w8.drew.cell? ⟨(w.heap.size + 1), 2, none⟩ = some (.int .u64 (lo' : Nat)) ∧ w8.drew.cell? ⟨g1, 0, none⟩ = some (.bool x1) ∧ w8.drew.cell? ⟨g1, 1, none⟩ = some (.int .u64 (x2 : Nat)) ∧ w8.drew.cell? ⟨g1, 2, none⟩ = some (.int .u64 (x3 : Nat)) ∧ w8.drew.cell? ⟨g3, 0, none⟩ = some (.bool x1) ∧ w8.drew.cell? ⟨g3, 1, none⟩ = some (.int .u64 (x2 : Nat)) ∧ w8.drew.cell? ⟨g3, 2, none⟩ = some (.int .u64 (x3 : Nat)) ∧ w8.drew.cell? ⟨g5, 0, none⟩ = some (.bool z1) ∧ w8.drew.cell? ⟨g5, 1, none⟩ = some (.int .u64 (z2 : Nat)) ∧ w8.drew.cell? ⟨g5, 2, none⟩ = some (.int .u64 (z3 : Nat)) ∧ w8.drew.cell? ⟨g7, 0, none⟩ = some (.bool z1) ∧ w8.drew.cell? ⟨g7, 1, none⟩ = some (.int .u64 (z2 : Nat)) ∧ w8.drew.cell? ⟨g7, 2, none⟩ = some (.int .u64 (z3 : Nat)) := ⟨(Below.refl _ _).drew, c0, c1, c2, c3, c4, c5, c6, c7, c8, c9, c10, c11, c12, c13, c14, c15, c16, c17⟩
  go_region_held3 (fun W => Below w8.heap.size w8 W ∧ W.cell? ⟨w.heap.size, 0, none⟩ = some (.bool v) ∧ W.cell? ⟨w.heap.size, 1, none⟩ = some (.int .u64 (hi : Nat)) ∧ W.cell? ⟨w.heap.size, 2, none⟩ = some (.int .u64 (lo : Nat)) ∧ W.cell? ⟨(w.heap.size + 1), 0, none⟩ = some (.bool v') ∧ W.cell? ⟨(w.heap.size + 1), 1, none⟩ = some (.int .u64 (hi' : Nat)) ∧ W.cell? ⟨(w.heap.size + 1), 2, none⟩ = some (.int .u64 (lo' : Nat)) ∧ W.cell? ⟨g1, 0, none⟩ = some (.bool x1) ∧ W.cell? ⟨g1, 1, none⟩ = some (.int .u64 (x2 : Nat)) ∧ W.cell? ⟨g1, 2, none⟩ = some (.int .u64 (x3 : Nat)) ∧ W.cell? ⟨g3, 0, none⟩ = some (.bool x1) ∧ W.cell? ⟨g3, 1, none⟩ = some (.int .u64 (x2 : Nat)) ∧ W.cell? ⟨g3, 2, none⟩ = some (.int .u64 (x3 : Nat)) ∧ W.cell? ⟨g5, 0, none⟩ = some (.bool z1) ∧ W.cell? ⟨g5, 1, none⟩ = some (.int .u64 (z2 : Nat)) ∧ W.cell? ⟨g5, 2, none⟩ = some (.int .u64 (z3 : Nat)) ∧ W.cell? ⟨g7, 0, none⟩ = some (.bool z1) ∧ W.cell? ⟨g7, 1, none⟩ = some (.int .u64 (z2 : Nat)) ∧ W.cell? ⟨g7, 2, none⟩ = some (.int .u64 (z3 : Nat))) ((first | assumption | exact hS0)) (first
    | (go_at_call 11; (with_reducible refine (RT1.out _).mono ?_); rintro e w9 ⟨rfl, hb9⟩; have hS := hold18 (by assumption) hb9)
    | (go_at_call 12; (with_reducible refine (RT2.out _).mono ?_); rintro e w9 ⟨rfl, hb9⟩; have hS := hold18 (by assumption) hb9)
    | (go_at_call 13; (with_reducible refine (P1.out _).mono ?_); rintro e w9 ⟨rfl, hb9⟩; have hS := hold18 (by assumption) hb9)
    | (go_at_call 14; (with_reducible refine (P2.out _).mono ?_); rintro e w9 ⟨rfl, hb9⟩; have hS := hold18 (by assumption) hb9)
    | (go_at_call 15; (with_reducible refine (T1.out _ (hw8.out.below (And.left (by assumption)))).mono ?_); rintro e w9 ⟨rfl, hb9⟩; have hS := hold18 (by assumption) hb9)
    | (go_at_call 16; (with_reducible refine (T2.out _).mono ?_); rintro e w9 ⟨rfl, hb9⟩; have hS := hold18 (by assumption) hb9)
    | (go_at_call 17; (with_reducible refine (L1.out _).mono ?_); rintro e w9 ⟨rfl, hb9⟩; have hS := hold18 (by assumption) hb9)
    | (go_at_call 18; (with_reducible refine (L2.out _).mono ?_); rintro e w9 ⟨rfl, hb9⟩; have hS := hold18 (by assumption) hb9)
    | (go_at_call 6; (with_reducible refine (AW.out _ (hw8.out.below (And.left (by assumption)))).mono ?_); rintro e w9 ⟨rfl, hb9⟩; have hS := hold18 (by assumption) hb9))
  all_goals
    rename_i hHeld
    go_wp2_with fail
    go_ret
    exact ⟨rfl, below_chain hHeld.1 hbA.out⟩
end Go.Proofs.YtodbgjnccngljaaDoor
