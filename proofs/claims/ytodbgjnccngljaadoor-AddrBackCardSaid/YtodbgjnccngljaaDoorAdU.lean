/- addr: the law AddrBack: what is read is none. -/
import Derived.Test.YtodbgjnccngljaaDoorAdS
import Derived.Test.YtodbgjnccngljaaDoorAdK
import Derived.Test.YtodbgjnccngljaaDoorHold
namespace Go.Proofs.YtodbgjnccngljaaDoor
open Go Go.RowKit Go.Deep

set_option maxRecDepth 100000 in
set_option maxHeartbeats 32000000 in
theorem addrBack_n0 (v : Bool) (hi lo : Nat) (v' : Bool) (hi' lo' : Nat) (l : List UInt8) (w : World) (hw : Std w) (h1 : hi < 18446744073709551616) (h2 : lo < 18446744073709551616) (h60 : l.length ≤ 60) (hz : readA l = none)
    (o1 : lessA v hi lo v' hi' lo' = false) (o2 : lessA v' hi' lo' v hi lo = false) (o3 : adrB v hi lo v' hi' lo' = true) :
    Calls Tryd.prog 4 #[.agg #[.bool v, .int .u64 (hi : Nat), .int .u64 (lo : Nat)], .agg #[.bool v', .int .u64 (hi' : Nat), .int .u64 (lo' : Nat)], .string ⟨l.toArray⟩] w fun e w' => e = .returned (.bool true) ∧ Below w.heap.size w w' := by
  have hsl : (ByteArray.mk l.toArray).size = l.length := rfl
  have g : ¬ (60 : Int) < (l.length : Int) := by omega
  have K3 := (Blk.new w 24 #[.bool v, .int .u64 (hi : Nat), .int .u64 (lo : Nat)]).alloc (.cells #[.bool v', .int .u64 (hi' : Nat), .int .u64 (lo' : Nat)] 24)
  have K4 := Blk.new (w.alloc (.cells #[.bool v, .int .u64 (hi : Nat), .int .u64 (lo : Nat)] 24)) 24 #[.bool v', .int .u64 (hi' : Nat), .int .u64 (lo' : Nat)]
  have hs0 : (w.alloc (.cells #[.bool v, .int .u64 (hi : Nat), .int .u64 (lo : Nat)] 24)).heap.size = w.heap.size + 1 := by simp
  have hbA := below_alloc (below_alloc (Below.refl w.heap.size w) (.cells #[.bool v, .int .u64 (hi : Nat), .int .u64 (lo : Nat)] 24)) (.cells #[.bool v', .int .u64 (hi' : Nat), .int .u64 (lo' : Nat)] 24)
  rw [hs0] at K4
  clear hs0
  have R1 := fun W hW => addr_read l W hW (by omega)
  rw [hz] at R1
  replace R1 := Lib.hid (show ∀ W, Std W → Calls Tryd.prog 9 #[.string ⟨l.toArray⟩] W fun e w' => e = .returned (.tuple #[.agg #[.bool false, .int .u64 0, .int .u64 0], .bool false]) ∧ Below W.heap.size W w' from R1)
  have L1 := fun W => addr_less v v' hi lo hi' lo' W
  have L2 := fun W => addr_less v' v hi' lo' hi lo W
  have L3 := fun W => addr_less v v hi lo hi lo W
  have L0 := lessA_self v hi lo
  unfold lessA at o1 o2 L0
  rw [o1] at L1
  rw [o2] at L2
  rw [L0] at L3
  replace L1 := Lib.hid L1
  replace L2 := Lib.hid L2
  replace L3 := Lib.hid L3
  have E1 := fun W => adr_neq v hi lo v' hi' lo' W
  rw [o3] at E1
  simp only [Bool.not_true] at E1
  have E2 := fun W => adr_eql v hi lo v hi lo W
  rw [adrB_self] at E2
  have hG := adr_guard
  have RA := fun W => addr_right v hi lo W
  have PA := fun W => addr_put v hi lo W
  have TA := fun W hW => addr_text v hi lo W hW
  have AW := Lib.hid awake04
  have e1 : (l == l) = true := by simp
  have e2 : (l != l) = false := by simp
  replace hw := Lib.hid hw
  clear hz o1 o2 o3 L0
  go_enter Tryd.func4, Tryd.ntmps4
  go_upto_region 4 with (go_at_call 9; (with_reducible refine (R1.out _ (hw.out.below hbA)).mono ?_); rintro e w1 ⟨rfl, hb1⟩)
  replace K3 := (K3.call hb1).alloc (.cells #[.bool false, .int .u64 0, .int .u64 0] 24)
  replace K4 := (K4.call hb1).alloc (.cells #[.bool false, .int .u64 0, .int .u64 0] 24)
  have K7 := Blk.new w1 24 #[.bool false, .int .u64 0, .int .u64 0]
  replace hbA := below_alloc (below_chain hb1 hbA) (.cells #[.bool false, .int .u64 0, .int .u64 0] 24)
  clear hb1
  generalize w1.alloc (.cells #[.bool false, .int .u64 0, .int .u64 0] 24) = w2 at *
  generalize w1.heap.size = g1 at *
  obtain ⟨⟨c6, c7, c8⟩, -, -, -⟩ := blk3 K7
  have hw2 := Lib.hid (hw.out.below hbA)
  replace hbA := Lib.hid hbA
  replace K3 := Lib.hid K3
  replace K4 := Lib.hid K4
  go_upto_region 6 with fail
  replace K3 := K3.out
  replace K4 := K4.out
  replace hbA := hbA.out
  clear c6 c7 c8 hw2 K7
  generalize w2 = w3 at *
  obtain ⟨⟨c0, c1, c2⟩, -, -, -⟩ := blk3 K3
  obtain ⟨⟨c3, c4, c5⟩, -, -, -⟩ := blk3 K4
  go_upto_region 8 with (first
    | (go_at_call 17; (with_reducible refine (L1.out _).mono ?_); rintro e w9 ⟨rfl, hb9⟩; replace K3 := K3.call hb9; replace K4 := K4.call hb9; replace hbA := below_chain hb9 hbA; clear hb9 c0 c1 c2 c3 c4 c5; obtain ⟨⟨c0, c1, c2⟩, -⟩ := blk3 K3; obtain ⟨⟨c3, c4, c5⟩, -⟩ := blk3 K4)
    | (go_at_call 17; (with_reducible refine (L2.out _).mono ?_); rintro e w9 ⟨rfl, hb9⟩; replace K3 := K3.call hb9; replace K4 := K4.call hb9; replace hbA := below_chain hb9 hbA; clear hb9 c0 c1 c2 c3 c4 c5; obtain ⟨⟨c0, c1, c2⟩, -⟩ := blk3 K3; obtain ⟨⟨c3, c4, c5⟩, -⟩ := blk3 K4)
    | (go_at_call 17; (with_reducible refine (L3.out _).mono ?_); rintro e w9 ⟨rfl, hb9⟩; replace K3 := K3.call hb9; replace K4 := K4.call hb9; replace hbA := below_chain hb9 hbA; clear hb9 c0 c1 c2 c3 c4 c5; obtain ⟨⟨c0, c1, c2⟩, -⟩ := blk3 K3; obtain ⟨⟨c3, c4, c5⟩, -⟩ := blk3 K4))
  clear L1 L2 L3 E1 c3 c4 c5 K4
  rename_i w4
  have hwA := Lib.hid (hw.out.below hbA)
  replace hbA := Lib.hid hbA
  replace K3 := Lib.hid K3
  obtain ⟨ok, ho⟩ : ∃ ok, adrOk v hi lo = ok := ⟨_, rfl⟩
  rw [ho] at RA
  cases ok
  · have hp : adrPut v hi lo = [] := by unfold adrPut; rw [ho]; rfl
    have ht : adrTxt v hi lo = [] := by unfold adrTxt; rw [hp]; rfl
    rw [hp] at PA
    rw [ht] at TA
    replace PA := Lib.hid (show ∀ W, Calls Tryd.prog 13 #[.agg #[.bool v, .int .u64 (hi : Nat), .int .u64 (lo : Nat)]] W fun e w' => e = .returned (.string ⟨#[]⟩) ∧ Below W.heap.size W w' from PA)
    replace TA := Lib.hid (show ∀ W, Std W → Calls Tryd.prog 15 #[.agg #[.bool v, .int .u64 (hi : Nat), .int .u64 (lo : Nat)]] W fun e w' => e = .returned (.string ⟨#[]⟩) ∧ Below W.heap.size W w' from TA)
    clear hp ht ho
    go_upto_region 9 with (go_at_call 11; (with_reducible refine (RA _).mono ?_); rintro e w5 ⟨rfl, hb5⟩)
    replace K3 := K3.out.call hb5
    replace hbA := below_chain hb5 hbA.out
    have hwB := Lib.hid (hw.out.below hbA)
    clear hb5 c0 c1 c2
    obtain ⟨⟨c0, c1, c2⟩, -, -, -⟩ := blk3 K3
    go_wp2_with (first
      | (go_at_call 13; (with_reducible refine (PA.out _).mono ?_); rintro e w6 ⟨rfl, hb6⟩; obtain ⟨⟨d0, d1, d2⟩, -⟩ := blk3 (K3.call hb6))
      | (go_at_call 15; (with_reducible refine (TA.out _ (hwB.out.below hb6)).mono ?_); rintro e w7 ⟨rfl, hb7⟩)
      | (go_at_call 6; (with_reducible refine (AW.out _ ((hwB.out.below hb6).below hb7)).mono ?_); rintro e w8 ⟨rfl, hb8⟩))
    go_ret
    exact ⟨rfl, below_chain hb8 (below_chain hb7 (below_chain hb6 hbA))⟩
  have hin : adrIn v hi lo := ⟨ho, h1, h2⟩
  have G1 := fun W => addr_get (adrPut v hi lo) W
  rw [getA_put hin] at G1
  have hlt := adrTxt_len v hi lo
  have RX := fun W hW => addr_read (adrTxt v hi lo) W hW (by omega)
  rw [readA_txt hin] at RX
  replace G1 := Lib.hid (show ∀ W, Calls Tryd.prog 7 #[.string ⟨(adrPut v hi lo).toArray⟩] W fun e w' => e = .returned (.tuple #[.agg #[.bool v, .int .u64 (hi : Nat), .int .u64 (lo : Nat)], .bool true]) ∧ Below W.heap.size W w' from G1)
  replace RX := Lib.hid (show ∀ W, Std W → Calls Tryd.prog 9 #[.string ⟨(adrTxt v hi lo).toArray⟩] W fun e w' => e = .returned (.tuple #[.agg #[.bool v, .int .u64 (hi : Nat), .int .u64 (lo : Nat)], .bool true]) ∧ Below W.heap.size W w' from RX)
  clear hin ho hlt
  generalize adrPut v hi lo = pb at *
  generalize adrTxt v hi lo = tb at *
  replace PA := Lib.hid PA
  replace TA := Lib.hid TA
  go_upto_region 10 with (go_at_call 11; (with_reducible refine (RA _).mono ?_); rintro e w5 ⟨rfl, hb5⟩)
  replace K3 := K3.out.call hb5
  replace hbA := below_chain hb5 hbA.out
  clear hb5 c0 c1 c2 hwA
  obtain ⟨⟨c0, c1, c2⟩, -, -, -⟩ := blk3 K3
  go_upto_region 11 with (first
    | (go_at_call 13; (with_reducible refine (PA.out _).mono ?_); rintro e w6 ⟨rfl, hb6⟩)
    | (go_at_call 7; (with_reducible refine (G1.out _).mono ?_); rintro e w7 ⟨rfl, hb7⟩))
  replace K3 := ((K3.call hb6).call hb7).alloc (.cells #[.bool v, .int .u64 (hi : Nat), .int .u64 (lo : Nat)] 24)
  have K9 := Blk.new w7 24 #[.bool v, .int .u64 (hi : Nat), .int .u64 (lo : Nat)]
  replace hbA := below_alloc (below_chain hb7 (below_chain hb6 hbA)) (.cells #[.bool v, .int .u64 (hi : Nat), .int .u64 (lo : Nat)] 24)
  clear hb6 hb7 c0 c1 c2
  generalize w7.alloc (.cells #[.bool v, .int .u64 (hi : Nat), .int .u64 (lo : Nat)] 24) = w8 at *
  generalize w7.heap.size = g7 at *
  obtain ⟨⟨c0, c1, c2⟩, -, -, -⟩ := blk3 K3
  have hwB := Lib.hid (hw.out.below hbA)
  go_upto_region 12 with (first
    | (go_at_call 15; (with_reducible refine (TA.out _ hwB.out).mono ?_); rintro e w10 ⟨rfl, hb10⟩)
    | (go_at_call 9; (with_reducible refine (RX.out _ (hwB.out.below hb10)).mono ?_); rintro e w11 ⟨rfl, hb11⟩))
  replace K3 := ((K3.call hb10).call hb11).alloc (.cells #[.bool v, .int .u64 (hi : Nat), .int .u64 (lo : Nat)] 24)
  replace K9 := ((K9.call hb10).call hb11).alloc (.cells #[.bool v, .int .u64 (hi : Nat), .int .u64 (lo : Nat)] 24)
  have K11 := Blk.new w11 24 #[.bool v, .int .u64 (hi : Nat), .int .u64 (lo : Nat)]
  replace hbA := below_alloc (below_chain hb11 (below_chain hb10 hbA)) (.cells #[.bool v, .int .u64 (hi : Nat), .int .u64 (lo : Nat)] 24)
  clear hb10 hb11 c0 c1 c2 hwB
  generalize w11.alloc (.cells #[.bool v, .int .u64 (hi : Nat), .int .u64 (lo : Nat)] 24) = w12 at *
  generalize w11.heap.size = g11 at *
  obtain ⟨⟨c0, c1, c2⟩, -, -, -⟩ := blk3 K3
  obtain ⟨⟨c3, c4, c5⟩, -, -, -⟩ := blk3 K9
  obtain ⟨⟨c6, c7, c8⟩, -, -, -⟩ := blk3 K11
  clear K3 K9 K11
  have hwB := Lib.hid (hw.out.below hbA)
  replace hbA := Lib.hid hbA
  replace hbA := hbA.out
  go_wp2_with (go_at_call 6; (with_reducible refine (AW.out _ hwB.out).mono ?_); rintro e w13 ⟨rfl, hb13⟩)
  go_ret
  exact ⟨rfl, below_chain hb13 hbA⟩
set_option maxRecDepth 100000 in
set_option maxHeartbeats 32000000 in
theorem addrBack_n1 (v : Bool) (hi lo : Nat) (v' : Bool) (hi' lo' : Nat) (l : List UInt8) (w : World) (hw : Std w) (h1 : hi < 18446744073709551616) (h2 : lo < 18446744073709551616) (h60 : l.length ≤ 60) (hz : readA l = none)
    (o1 : lessA v hi lo v' hi' lo' = true) (o2 : lessA v' hi' lo' v hi lo = false) (o3 : adrB v hi lo v' hi' lo' = false) :
    Calls Tryd.prog 4 #[.agg #[.bool v, .int .u64 (hi : Nat), .int .u64 (lo : Nat)], .agg #[.bool v', .int .u64 (hi' : Nat), .int .u64 (lo' : Nat)], .string ⟨l.toArray⟩] w fun e w' => e = .returned (.bool true) ∧ Below w.heap.size w w' := by
  have hsl : (ByteArray.mk l.toArray).size = l.length := rfl
  have g : ¬ (60 : Int) < (l.length : Int) := by omega
  have K3 := (Blk.new w 24 #[.bool v, .int .u64 (hi : Nat), .int .u64 (lo : Nat)]).alloc (.cells #[.bool v', .int .u64 (hi' : Nat), .int .u64 (lo' : Nat)] 24)
  have K4 := Blk.new (w.alloc (.cells #[.bool v, .int .u64 (hi : Nat), .int .u64 (lo : Nat)] 24)) 24 #[.bool v', .int .u64 (hi' : Nat), .int .u64 (lo' : Nat)]
  have hs0 : (w.alloc (.cells #[.bool v, .int .u64 (hi : Nat), .int .u64 (lo : Nat)] 24)).heap.size = w.heap.size + 1 := by simp
  have hbA := below_alloc (below_alloc (Below.refl w.heap.size w) (.cells #[.bool v, .int .u64 (hi : Nat), .int .u64 (lo : Nat)] 24)) (.cells #[.bool v', .int .u64 (hi' : Nat), .int .u64 (lo' : Nat)] 24)
  rw [hs0] at K4
  clear hs0
  have R1 := fun W hW => addr_read l W hW (by omega)
  rw [hz] at R1
  replace R1 := Lib.hid (show ∀ W, Std W → Calls Tryd.prog 9 #[.string ⟨l.toArray⟩] W fun e w' => e = .returned (.tuple #[.agg #[.bool false, .int .u64 0, .int .u64 0], .bool false]) ∧ Below W.heap.size W w' from R1)
  have L1 := fun W => addr_less v v' hi lo hi' lo' W
  have L2 := fun W => addr_less v' v hi' lo' hi lo W
  have L3 := fun W => addr_less v v hi lo hi lo W
  have L0 := lessA_self v hi lo
  unfold lessA at o1 o2 L0
  rw [o1] at L1
  rw [o2] at L2
  rw [L0] at L3
  replace L1 := Lib.hid L1
  replace L2 := Lib.hid L2
  replace L3 := Lib.hid L3
  have E1 := fun W => adr_neq v hi lo v' hi' lo' W
  rw [o3] at E1
  simp only [Bool.not_false] at E1
  have E2 := fun W => adr_eql v hi lo v hi lo W
  rw [adrB_self] at E2
  have hG := adr_guard
  have RA := fun W => addr_right v hi lo W
  have PA := fun W => addr_put v hi lo W
  have TA := fun W hW => addr_text v hi lo W hW
  have AW := Lib.hid awake04
  have e1 : (l == l) = true := by simp
  have e2 : (l != l) = false := by simp
  replace hw := Lib.hid hw
  clear hz o1 o2 o3 L0
  go_enter Tryd.func4, Tryd.ntmps4
  go_upto_region 4 with (go_at_call 9; (with_reducible refine (R1.out _ (hw.out.below hbA)).mono ?_); rintro e w1 ⟨rfl, hb1⟩)
  replace K3 := (K3.call hb1).alloc (.cells #[.bool false, .int .u64 0, .int .u64 0] 24)
  replace K4 := (K4.call hb1).alloc (.cells #[.bool false, .int .u64 0, .int .u64 0] 24)
  have K7 := Blk.new w1 24 #[.bool false, .int .u64 0, .int .u64 0]
  replace hbA := below_alloc (below_chain hb1 hbA) (.cells #[.bool false, .int .u64 0, .int .u64 0] 24)
  clear hb1
  generalize w1.alloc (.cells #[.bool false, .int .u64 0, .int .u64 0] 24) = w2 at *
  generalize w1.heap.size = g1 at *
  obtain ⟨⟨c6, c7, c8⟩, -, -, -⟩ := blk3 K7
  have hw2 := Lib.hid (hw.out.below hbA)
  replace hbA := Lib.hid hbA
  replace K3 := Lib.hid K3
  replace K4 := Lib.hid K4
  go_upto_region 6 with fail
  replace K3 := K3.out
  replace K4 := K4.out
  replace hbA := hbA.out
  clear c6 c7 c8 hw2 K7
  generalize w2 = w3 at *
  obtain ⟨⟨c0, c1, c2⟩, -, -, -⟩ := blk3 K3
  obtain ⟨⟨c3, c4, c5⟩, -, -, -⟩ := blk3 K4
  go_upto_region 8 with (first
    | (go_at_call 17; (with_reducible refine (L1.out _).mono ?_); rintro e w9 ⟨rfl, hb9⟩; replace K3 := K3.call hb9; replace K4 := K4.call hb9; replace hbA := below_chain hb9 hbA; clear hb9 c0 c1 c2 c3 c4 c5; obtain ⟨⟨c0, c1, c2⟩, -⟩ := blk3 K3; obtain ⟨⟨c3, c4, c5⟩, -⟩ := blk3 K4)
    | (go_at_call 17; (with_reducible refine (L2.out _).mono ?_); rintro e w9 ⟨rfl, hb9⟩; replace K3 := K3.call hb9; replace K4 := K4.call hb9; replace hbA := below_chain hb9 hbA; clear hb9 c0 c1 c2 c3 c4 c5; obtain ⟨⟨c0, c1, c2⟩, -⟩ := blk3 K3; obtain ⟨⟨c3, c4, c5⟩, -⟩ := blk3 K4)
    | (go_at_call 17; (with_reducible refine (L3.out _).mono ?_); rintro e w9 ⟨rfl, hb9⟩; replace K3 := K3.call hb9; replace K4 := K4.call hb9; replace hbA := below_chain hb9 hbA; clear hb9 c0 c1 c2 c3 c4 c5; obtain ⟨⟨c0, c1, c2⟩, -⟩ := blk3 K3; obtain ⟨⟨c3, c4, c5⟩, -⟩ := blk3 K4))
  clear L1 L2 L3 E1 c3 c4 c5 K4
  rename_i w4
  have hwA := Lib.hid (hw.out.below hbA)
  replace hbA := Lib.hid hbA
  replace K3 := Lib.hid K3
  obtain ⟨ok, ho⟩ : ∃ ok, adrOk v hi lo = ok := ⟨_, rfl⟩
  rw [ho] at RA
  cases ok
  · have hp : adrPut v hi lo = [] := by unfold adrPut; rw [ho]; rfl
    have ht : adrTxt v hi lo = [] := by unfold adrTxt; rw [hp]; rfl
    rw [hp] at PA
    rw [ht] at TA
    replace PA := Lib.hid (show ∀ W, Calls Tryd.prog 13 #[.agg #[.bool v, .int .u64 (hi : Nat), .int .u64 (lo : Nat)]] W fun e w' => e = .returned (.string ⟨#[]⟩) ∧ Below W.heap.size W w' from PA)
    replace TA := Lib.hid (show ∀ W, Std W → Calls Tryd.prog 15 #[.agg #[.bool v, .int .u64 (hi : Nat), .int .u64 (lo : Nat)]] W fun e w' => e = .returned (.string ⟨#[]⟩) ∧ Below W.heap.size W w' from TA)
    clear hp ht ho
    go_upto_region 9 with (go_at_call 11; (with_reducible refine (RA _).mono ?_); rintro e w5 ⟨rfl, hb5⟩)
    replace K3 := K3.out.call hb5
    replace hbA := below_chain hb5 hbA.out
    have hwB := Lib.hid (hw.out.below hbA)
    clear hb5 c0 c1 c2
    obtain ⟨⟨c0, c1, c2⟩, -, -, -⟩ := blk3 K3
    go_wp2_with (first
      | (go_at_call 13; (with_reducible refine (PA.out _).mono ?_); rintro e w6 ⟨rfl, hb6⟩; obtain ⟨⟨d0, d1, d2⟩, -⟩ := blk3 (K3.call hb6))
      | (go_at_call 15; (with_reducible refine (TA.out _ (hwB.out.below hb6)).mono ?_); rintro e w7 ⟨rfl, hb7⟩)
      | (go_at_call 6; (with_reducible refine (AW.out _ ((hwB.out.below hb6).below hb7)).mono ?_); rintro e w8 ⟨rfl, hb8⟩))
    go_ret
    exact ⟨rfl, below_chain hb8 (below_chain hb7 (below_chain hb6 hbA))⟩
  have hin : adrIn v hi lo := ⟨ho, h1, h2⟩
  have G1 := fun W => addr_get (adrPut v hi lo) W
  rw [getA_put hin] at G1
  have hlt := adrTxt_len v hi lo
  have RX := fun W hW => addr_read (adrTxt v hi lo) W hW (by omega)
  rw [readA_txt hin] at RX
  replace G1 := Lib.hid (show ∀ W, Calls Tryd.prog 7 #[.string ⟨(adrPut v hi lo).toArray⟩] W fun e w' => e = .returned (.tuple #[.agg #[.bool v, .int .u64 (hi : Nat), .int .u64 (lo : Nat)], .bool true]) ∧ Below W.heap.size W w' from G1)
  replace RX := Lib.hid (show ∀ W, Std W → Calls Tryd.prog 9 #[.string ⟨(adrTxt v hi lo).toArray⟩] W fun e w' => e = .returned (.tuple #[.agg #[.bool v, .int .u64 (hi : Nat), .int .u64 (lo : Nat)], .bool true]) ∧ Below W.heap.size W w' from RX)
  clear hin ho hlt
  generalize adrPut v hi lo = pb at *
  generalize adrTxt v hi lo = tb at *
  replace PA := Lib.hid PA
  replace TA := Lib.hid TA
  go_upto_region 10 with (go_at_call 11; (with_reducible refine (RA _).mono ?_); rintro e w5 ⟨rfl, hb5⟩)
  replace K3 := K3.out.call hb5
  replace hbA := below_chain hb5 hbA.out
  clear hb5 c0 c1 c2 hwA
  obtain ⟨⟨c0, c1, c2⟩, -, -, -⟩ := blk3 K3
  go_upto_region 11 with (first
    | (go_at_call 13; (with_reducible refine (PA.out _).mono ?_); rintro e w6 ⟨rfl, hb6⟩)
    | (go_at_call 7; (with_reducible refine (G1.out _).mono ?_); rintro e w7 ⟨rfl, hb7⟩))
  replace K3 := ((K3.call hb6).call hb7).alloc (.cells #[.bool v, .int .u64 (hi : Nat), .int .u64 (lo : Nat)] 24)
  have K9 := Blk.new w7 24 #[.bool v, .int .u64 (hi : Nat), .int .u64 (lo : Nat)]
  replace hbA := below_alloc (below_chain hb7 (below_chain hb6 hbA)) (.cells #[.bool v, .int .u64 (hi : Nat), .int .u64 (lo : Nat)] 24)
  clear hb6 hb7 c0 c1 c2
  generalize w7.alloc (.cells #[.bool v, .int .u64 (hi : Nat), .int .u64 (lo : Nat)] 24) = w8 at *
  generalize w7.heap.size = g7 at *
  obtain ⟨⟨c0, c1, c2⟩, -, -, -⟩ := blk3 K3
  have hwB := Lib.hid (hw.out.below hbA)
  go_upto_region 12 with (first
    | (go_at_call 15; (with_reducible refine (TA.out _ hwB.out).mono ?_); rintro e w10 ⟨rfl, hb10⟩)
    | (go_at_call 9; (with_reducible refine (RX.out _ (hwB.out.below hb10)).mono ?_); rintro e w11 ⟨rfl, hb11⟩))
  replace K3 := ((K3.call hb10).call hb11).alloc (.cells #[.bool v, .int .u64 (hi : Nat), .int .u64 (lo : Nat)] 24)
  replace K9 := ((K9.call hb10).call hb11).alloc (.cells #[.bool v, .int .u64 (hi : Nat), .int .u64 (lo : Nat)] 24)
  have K11 := Blk.new w11 24 #[.bool v, .int .u64 (hi : Nat), .int .u64 (lo : Nat)]
  replace hbA := below_alloc (below_chain hb11 (below_chain hb10 hbA)) (.cells #[.bool v, .int .u64 (hi : Nat), .int .u64 (lo : Nat)] 24)
  clear hb10 hb11 c0 c1 c2 hwB
  generalize w11.alloc (.cells #[.bool v, .int .u64 (hi : Nat), .int .u64 (lo : Nat)] 24) = w12 at *
  generalize w11.heap.size = g11 at *
  obtain ⟨⟨c0, c1, c2⟩, -, -, -⟩ := blk3 K3
  obtain ⟨⟨c3, c4, c5⟩, -, -, -⟩ := blk3 K9
  obtain ⟨⟨c6, c7, c8⟩, -, -, -⟩ := blk3 K11
  clear K3 K9 K11
  have hwB := Lib.hid (hw.out.below hbA)
  replace hbA := Lib.hid hbA
  replace hbA := hbA.out
  go_wp2_with (go_at_call 6; (with_reducible refine (AW.out _ hwB.out).mono ?_); rintro e w13 ⟨rfl, hb13⟩)
  go_ret
  exact ⟨rfl, below_chain hb13 hbA⟩
set_option maxRecDepth 100000 in
set_option maxHeartbeats 32000000 in
theorem addrBack_n2 (v : Bool) (hi lo : Nat) (v' : Bool) (hi' lo' : Nat) (l : List UInt8) (w : World) (hw : Std w) (h1 : hi < 18446744073709551616) (h2 : lo < 18446744073709551616) (h60 : l.length ≤ 60) (hz : readA l = none)
    (o1 : lessA v hi lo v' hi' lo' = false) (o2 : lessA v' hi' lo' v hi lo = true) (o3 : adrB v hi lo v' hi' lo' = false) :
    Calls Tryd.prog 4 #[.agg #[.bool v, .int .u64 (hi : Nat), .int .u64 (lo : Nat)], .agg #[.bool v', .int .u64 (hi' : Nat), .int .u64 (lo' : Nat)], .string ⟨l.toArray⟩] w fun e w' => e = .returned (.bool true) ∧ Below w.heap.size w w' := by
  have hsl : (ByteArray.mk l.toArray).size = l.length := rfl
  have g : ¬ (60 : Int) < (l.length : Int) := by omega
  have K3 := (Blk.new w 24 #[.bool v, .int .u64 (hi : Nat), .int .u64 (lo : Nat)]).alloc (.cells #[.bool v', .int .u64 (hi' : Nat), .int .u64 (lo' : Nat)] 24)
  have K4 := Blk.new (w.alloc (.cells #[.bool v, .int .u64 (hi : Nat), .int .u64 (lo : Nat)] 24)) 24 #[.bool v', .int .u64 (hi' : Nat), .int .u64 (lo' : Nat)]
  have hs0 : (w.alloc (.cells #[.bool v, .int .u64 (hi : Nat), .int .u64 (lo : Nat)] 24)).heap.size = w.heap.size + 1 := by simp
  have hbA := below_alloc (below_alloc (Below.refl w.heap.size w) (.cells #[.bool v, .int .u64 (hi : Nat), .int .u64 (lo : Nat)] 24)) (.cells #[.bool v', .int .u64 (hi' : Nat), .int .u64 (lo' : Nat)] 24)
  rw [hs0] at K4
  clear hs0
  have R1 := fun W hW => addr_read l W hW (by omega)
  rw [hz] at R1
  replace R1 := Lib.hid (show ∀ W, Std W → Calls Tryd.prog 9 #[.string ⟨l.toArray⟩] W fun e w' => e = .returned (.tuple #[.agg #[.bool false, .int .u64 0, .int .u64 0], .bool false]) ∧ Below W.heap.size W w' from R1)
  have L1 := fun W => addr_less v v' hi lo hi' lo' W
  have L2 := fun W => addr_less v' v hi' lo' hi lo W
  have L3 := fun W => addr_less v v hi lo hi lo W
  have L0 := lessA_self v hi lo
  unfold lessA at o1 o2 L0
  rw [o1] at L1
  rw [o2] at L2
  rw [L0] at L3
  replace L1 := Lib.hid L1
  replace L2 := Lib.hid L2
  replace L3 := Lib.hid L3
  have E1 := fun W => adr_neq v hi lo v' hi' lo' W
  rw [o3] at E1
  simp only [Bool.not_false] at E1
  have E2 := fun W => adr_eql v hi lo v hi lo W
  rw [adrB_self] at E2
  have hG := adr_guard
  have RA := fun W => addr_right v hi lo W
  have PA := fun W => addr_put v hi lo W
  have TA := fun W hW => addr_text v hi lo W hW
  have AW := Lib.hid awake04
  have e1 : (l == l) = true := by simp
  have e2 : (l != l) = false := by simp
  replace hw := Lib.hid hw
  clear hz o1 o2 o3 L0
  go_enter Tryd.func4, Tryd.ntmps4
  go_upto_region 4 with (go_at_call 9; (with_reducible refine (R1.out _ (hw.out.below hbA)).mono ?_); rintro e w1 ⟨rfl, hb1⟩)
  replace K3 := (K3.call hb1).alloc (.cells #[.bool false, .int .u64 0, .int .u64 0] 24)
  replace K4 := (K4.call hb1).alloc (.cells #[.bool false, .int .u64 0, .int .u64 0] 24)
  have K7 := Blk.new w1 24 #[.bool false, .int .u64 0, .int .u64 0]
  replace hbA := below_alloc (below_chain hb1 hbA) (.cells #[.bool false, .int .u64 0, .int .u64 0] 24)
  clear hb1
  generalize w1.alloc (.cells #[.bool false, .int .u64 0, .int .u64 0] 24) = w2 at *
  generalize w1.heap.size = g1 at *
  obtain ⟨⟨c6, c7, c8⟩, -, -, -⟩ := blk3 K7
  have hw2 := Lib.hid (hw.out.below hbA)
  replace hbA := Lib.hid hbA
  replace K3 := Lib.hid K3
  replace K4 := Lib.hid K4
  go_upto_region 6 with fail
  replace K3 := K3.out
  replace K4 := K4.out
  replace hbA := hbA.out
  clear c6 c7 c8 hw2 K7
  generalize w2 = w3 at *
  obtain ⟨⟨c0, c1, c2⟩, -, -, -⟩ := blk3 K3
  obtain ⟨⟨c3, c4, c5⟩, -, -, -⟩ := blk3 K4
  go_upto_region 8 with (first
    | (go_at_call 17; (with_reducible refine (L1.out _).mono ?_); rintro e w9 ⟨rfl, hb9⟩; replace K3 := K3.call hb9; replace K4 := K4.call hb9; replace hbA := below_chain hb9 hbA; clear hb9 c0 c1 c2 c3 c4 c5; obtain ⟨⟨c0, c1, c2⟩, -⟩ := blk3 K3; obtain ⟨⟨c3, c4, c5⟩, -⟩ := blk3 K4)
    | (go_at_call 17; (with_reducible refine (L2.out _).mono ?_); rintro e w9 ⟨rfl, hb9⟩; replace K3 := K3.call hb9; replace K4 := K4.call hb9; replace hbA := below_chain hb9 hbA; clear hb9 c0 c1 c2 c3 c4 c5; obtain ⟨⟨c0, c1, c2⟩, -⟩ := blk3 K3; obtain ⟨⟨c3, c4, c5⟩, -⟩ := blk3 K4)
    | (go_at_call 17; (with_reducible refine (L3.out _).mono ?_); rintro e w9 ⟨rfl, hb9⟩; replace K3 := K3.call hb9; replace K4 := K4.call hb9; replace hbA := below_chain hb9 hbA; clear hb9 c0 c1 c2 c3 c4 c5; obtain ⟨⟨c0, c1, c2⟩, -⟩ := blk3 K3; obtain ⟨⟨c3, c4, c5⟩, -⟩ := blk3 K4))
  clear L1 L2 L3 E1 c3 c4 c5 K4
  rename_i w4
  have hwA := Lib.hid (hw.out.below hbA)
  replace hbA := Lib.hid hbA
  replace K3 := Lib.hid K3
  obtain ⟨ok, ho⟩ : ∃ ok, adrOk v hi lo = ok := ⟨_, rfl⟩
  rw [ho] at RA
  cases ok
  · have hp : adrPut v hi lo = [] := by unfold adrPut; rw [ho]; rfl
    have ht : adrTxt v hi lo = [] := by unfold adrTxt; rw [hp]; rfl
    rw [hp] at PA
    rw [ht] at TA
    replace PA := Lib.hid (show ∀ W, Calls Tryd.prog 13 #[.agg #[.bool v, .int .u64 (hi : Nat), .int .u64 (lo : Nat)]] W fun e w' => e = .returned (.string ⟨#[]⟩) ∧ Below W.heap.size W w' from PA)
    replace TA := Lib.hid (show ∀ W, Std W → Calls Tryd.prog 15 #[.agg #[.bool v, .int .u64 (hi : Nat), .int .u64 (lo : Nat)]] W fun e w' => e = .returned (.string ⟨#[]⟩) ∧ Below W.heap.size W w' from TA)
    clear hp ht ho
    go_upto_region 9 with (go_at_call 11; (with_reducible refine (RA _).mono ?_); rintro e w5 ⟨rfl, hb5⟩)
    replace K3 := K3.out.call hb5
    replace hbA := below_chain hb5 hbA.out
    have hwB := Lib.hid (hw.out.below hbA)
    clear hb5 c0 c1 c2
    obtain ⟨⟨c0, c1, c2⟩, -, -, -⟩ := blk3 K3
    go_wp2_with (first
      | (go_at_call 13; (with_reducible refine (PA.out _).mono ?_); rintro e w6 ⟨rfl, hb6⟩; obtain ⟨⟨d0, d1, d2⟩, -⟩ := blk3 (K3.call hb6))
      | (go_at_call 15; (with_reducible refine (TA.out _ (hwB.out.below hb6)).mono ?_); rintro e w7 ⟨rfl, hb7⟩)
      | (go_at_call 6; (with_reducible refine (AW.out _ ((hwB.out.below hb6).below hb7)).mono ?_); rintro e w8 ⟨rfl, hb8⟩))
    go_ret
    exact ⟨rfl, below_chain hb8 (below_chain hb7 (below_chain hb6 hbA))⟩
  have hin : adrIn v hi lo := ⟨ho, h1, h2⟩
  have G1 := fun W => addr_get (adrPut v hi lo) W
  rw [getA_put hin] at G1
  have hlt := adrTxt_len v hi lo
  have RX := fun W hW => addr_read (adrTxt v hi lo) W hW (by omega)
  rw [readA_txt hin] at RX
  replace G1 := Lib.hid (show ∀ W, Calls Tryd.prog 7 #[.string ⟨(adrPut v hi lo).toArray⟩] W fun e w' => e = .returned (.tuple #[.agg #[.bool v, .int .u64 (hi : Nat), .int .u64 (lo : Nat)], .bool true]) ∧ Below W.heap.size W w' from G1)
  replace RX := Lib.hid (show ∀ W, Std W → Calls Tryd.prog 9 #[.string ⟨(adrTxt v hi lo).toArray⟩] W fun e w' => e = .returned (.tuple #[.agg #[.bool v, .int .u64 (hi : Nat), .int .u64 (lo : Nat)], .bool true]) ∧ Below W.heap.size W w' from RX)
  clear hin ho hlt
  generalize adrPut v hi lo = pb at *
  generalize adrTxt v hi lo = tb at *
  replace PA := Lib.hid PA
  replace TA := Lib.hid TA
  go_upto_region 10 with (go_at_call 11; (with_reducible refine (RA _).mono ?_); rintro e w5 ⟨rfl, hb5⟩)
  replace K3 := K3.out.call hb5
  replace hbA := below_chain hb5 hbA.out
  clear hb5 c0 c1 c2 hwA
  obtain ⟨⟨c0, c1, c2⟩, -, -, -⟩ := blk3 K3
  go_upto_region 11 with (first
    | (go_at_call 13; (with_reducible refine (PA.out _).mono ?_); rintro e w6 ⟨rfl, hb6⟩)
    | (go_at_call 7; (with_reducible refine (G1.out _).mono ?_); rintro e w7 ⟨rfl, hb7⟩))
  replace K3 := ((K3.call hb6).call hb7).alloc (.cells #[.bool v, .int .u64 (hi : Nat), .int .u64 (lo : Nat)] 24)
  have K9 := Blk.new w7 24 #[.bool v, .int .u64 (hi : Nat), .int .u64 (lo : Nat)]
  replace hbA := below_alloc (below_chain hb7 (below_chain hb6 hbA)) (.cells #[.bool v, .int .u64 (hi : Nat), .int .u64 (lo : Nat)] 24)
  clear hb6 hb7 c0 c1 c2
  generalize w7.alloc (.cells #[.bool v, .int .u64 (hi : Nat), .int .u64 (lo : Nat)] 24) = w8 at *
  generalize w7.heap.size = g7 at *
  obtain ⟨⟨c0, c1, c2⟩, -, -, -⟩ := blk3 K3
  have hwB := Lib.hid (hw.out.below hbA)
  go_upto_region 12 with (first
    | (go_at_call 15; (with_reducible refine (TA.out _ hwB.out).mono ?_); rintro e w10 ⟨rfl, hb10⟩)
    | (go_at_call 9; (with_reducible refine (RX.out _ (hwB.out.below hb10)).mono ?_); rintro e w11 ⟨rfl, hb11⟩))
  replace K3 := ((K3.call hb10).call hb11).alloc (.cells #[.bool v, .int .u64 (hi : Nat), .int .u64 (lo : Nat)] 24)
  replace K9 := ((K9.call hb10).call hb11).alloc (.cells #[.bool v, .int .u64 (hi : Nat), .int .u64 (lo : Nat)] 24)
  have K11 := Blk.new w11 24 #[.bool v, .int .u64 (hi : Nat), .int .u64 (lo : Nat)]
  replace hbA := below_alloc (below_chain hb11 (below_chain hb10 hbA)) (.cells #[.bool v, .int .u64 (hi : Nat), .int .u64 (lo : Nat)] 24)
  clear hb10 hb11 c0 c1 c2 hwB
  generalize w11.alloc (.cells #[.bool v, .int .u64 (hi : Nat), .int .u64 (lo : Nat)] 24) = w12 at *
  generalize w11.heap.size = g11 at *
  obtain ⟨⟨c0, c1, c2⟩, -, -, -⟩ := blk3 K3
  obtain ⟨⟨c3, c4, c5⟩, -, -, -⟩ := blk3 K9
  obtain ⟨⟨c6, c7, c8⟩, -, -, -⟩ := blk3 K11
  clear K3 K9 K11
  have hwB := Lib.hid (hw.out.below hbA)
  replace hbA := Lib.hid hbA
  replace hbA := hbA.out
  go_wp2_with (go_at_call 6; (with_reducible refine (AW.out _ hwB.out).mono ?_); rintro e w13 ⟨rfl, hb13⟩)
  go_ret
  exact ⟨rfl, below_chain hb13 hbA⟩
end Go.Proofs.YtodbgjnccngljaaDoor
