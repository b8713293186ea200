/- audit: slots where nothing lives, told by what Free answers. audit.Check's closures, told by what the functions answer that they call (no plane in sight). -/
import Derived.Test.YtohapcacckapoaaGreatJ9
import Derived.Deep.LoopGhost
import Derived.Deep.CutRange
import Derived.Deep.CutBlock
namespace Go.Proofs.YtohapcacckapoaaGreat
open Go Go.RowKit Go.Deep
theorem wrap_small (x : Int) (h1 : 0 ≤ x) (h2 : x ≤ 1000000) : wrap64 x = x := by
 unfold wrap64
 omega
theorem mul_small {i m : Nat} (hi : i ≤ 16) (hm : m ≤ 4096) : i * m ≤ 65536 := by
 have h : i * m ≤ 16 * 4096 := Nat.mul_le_mul hi hm
 omega
theorem wrap_next {i m : Nat} (hi : i ≤ 16) (hm : m ≤ 4096) : wrap64 (((i * m : Nat) : Int) + (m : Int)) = (((i + 1) * m : Nat) : Int) := by
 have h := mul_small hi hm
 have e : (i + 1) * m = i * m + m := Nat.succ_mul i m
 rw [e]
 generalize i * m = z at *
 rw [wrap_small _ (by omega) (by omega)]
 omega
theorem ix20 (a b : Int) (W : World) : (Instr.index 133 (.agg #[.int .i64 a, .int .i64 b]) (.int .i64 0)).run Tryz.prog W = .ok (.int .i64 a) W := by kernel_rfl
theorem ix21 (a b : Int) (W : World) : (Instr.index 133 (.agg #[.int .i64 a, .int .i64 b]) (.int .i64 1)).run Tryz.prog W = .ok (.int .i64 b) W := by kernel_rfl
set_option maxRecDepth 100000 in
set_option maxHeartbeats 16000000 in
theorem slots_core (w : World) (P : Value) (p a b m1 m2 : Nat) (A : Option Addr) (d : Nat) (hp1 : 1 ≤ p ∧ p ≤ 16) (ha : a ≤ 9) (hb : b ≤ 9) (hm1 : m1 ≤ 4096) (hm2 : m2 ≤ 4096) (o1 o2 : Bool) (S1 S2 : Int)
  (F1 : ∀ W, Below w.heap.size w W → ∀ i : Nat, i < p → Calls Tryz.prog 66 #[P, .int .i64 6, .int .i64 (i : Int)] W fun e w' => e = .returned (.int .i64 (m1 : Int)) ∧ Below W.heap.size W w')
  (F2 : ∀ W, Below w.heap.size w W → ∀ i : Nat, i < p → Calls Tryz.prog 66 #[P, .int .i64 17, .int .i64 (i : Int)] W fun e w' => e = .returned (.int .i64 (m2 : Int)) ∧ Below W.heap.size W w')
  (E1 : wrap64 ((p : Int) * (2 : Int) ^ (min a 64)) = S1 ∧ ((((p * m1 : Nat) : Int) != S1)) = !o1) (E2 : wrap64 ((p : Int) * (2 : Int) ^ (min b 64)) = S2 ∧ ((((p * m2 : Nat) : Int) != S2)) = !o2) :
  Calls Tryz.prog 33 #[P, .agg #[.int .i64 (p : Int), .int .i64 (a : Int), .int .i64 (b : Int), .bool true], .slice A 0 d] w fun e w' => e = .returned (.bool (!(o1 && o2))) ∧ Below w.heap.size w w' := by
 replace F1 := Lib.hid F1
 replace F2 := Lib.hid F2
 replace hm1 := Lib.hid hm1
 replace hm2 := Lib.hid hm2
 have I1 := ix20 6 17
 have I2 := ix21 6 17
 have I3 := ix20 (a : Int) (b : Int)
 have I4 := ix21 (a : Int) (b : Int)
 have g1 : decide ((p : Int) < 0) = false := by simp
 have g2 : decide (16 < (p : Int)) = false := by simp; omega
 have g3 : decide ((a : Int) < 0) = false := by simp
 have g4 : decide (12 < (a : Int)) = false := by simp; omega
 have g5 : decide ((b : Int) < 0) = false := by simp
 have g6 : decide (12 < (b : Int)) = false := by simp; omega
 obtain ⟨w1, hw1⟩ : ∃ w1, w1 = w.alloc (.cells #[.int .i64 (p : Int), .int .i64 (a : Int), .int .i64 (b : Int), .bool true] 54) := ⟨_, rfl⟩
 have hb0 : Below w.heap.size w w1 := hw1 ▸ below_alloc (Below.refl _ _) _
 have B0 : Blk w1 w.heap.size 54 #[.int .i64 (p : Int), .int .i64 (a : Int), .int .i64 (b : Int), .bool true] := by rw [hw1]; exact Blk.new w 54 _
 have c0 : w1.cell? ⟨w.heap.size, 0, none⟩ = some (.int .i64 (p : Int)) := B0.cell 0
 have c1 : w1.cell? ⟨w.heap.size, 1, none⟩ = some (.int .i64 (a : Int)) := B0.cell 1
 have c2 : w1.cell? ⟨w.heap.size, 2, none⟩ = some (.int .i64 (b : Int)) := B0.cell 2
 have RC := Lib.hid fun W (hb : Below w1.heap.size w1 W) => show W.cell? ⟨w.heap.size, 0, none⟩ = some (.int .i64 (p : Int)) ∧ W.cell? ⟨w.heap.size, 1, none⟩ = some (.int .i64 (a : Int)) ∧ W.cell? ⟨w.heap.size, 2, none⟩ = some (.int .i64 (b : Int)) from ⟨(B0.call hb).cell 0, (B0.call hb).cell 1, (B0.call hb).cell 2⟩
 replace hb0 := Lib.hid hb0
 obtain ⟨E1a, E1b⟩ := E1
 obtain ⟨E2a, E2b⟩ := E2
 clear B0 ha hb
 go_enter Tryz.func33, Tryz.ntmps33
 go_upto_region 1 with fail
 rw [← hw1]
 clear hw1
 go_wp2_with fail
 refine wp_loop_rounds 3 ?_
 rw [rounds_succ]
 go_wp2_with fail
 clear c0 c1 c2
 go_loopg [10, 42] p (fun gk nv iv wx => ∃ i z : Nat, i + gk = p ∧ iv = .int .i64 (i : Int) ∧ nv = .int .i64 (z : Int) ∧ z = i * m1 ∧ Below w1.heap.size w1 wx)
 case atStart => exact ⟨0, 0, by omega, rfl, rfl, by simp, Below.refl _ _⟩
 case round =>
  obtain ⟨i, z, hi, rfl, rfl, hz, hbx⟩ := hrel
  obtain ⟨c0, c1, c2⟩ := RC.out _ hbx
  by_cases hip : i < p
  ·
   have hipi : (i : Int) < (p : Int) := by omega
   have FI := Lib.hid (F1.out _ (below_chain hbx hb0.out) i hip)
   have hi16 : i ≤ 16 := by omega
   have hwi := Lib.hid (wrap_small ((i : Int) + 1) (by omega) (by omega))
   have hwn := Lib.hid (wrap_next (i := i) (m := m1) hi16 hm1.out)
   obtain ⟨nx, hnx⟩ : ∃ n : Nat, (i + 1) * m1 = n := ⟨_, rfl⟩
   have hwn1 : wrap64 ((z : Int) + (m1 : Int)) = (nx : Int) := by have h := hwn.out; rw [← hz, hnx] at h; exact h
   have hwi1 := hwi.out
   replace hz := Lib.hid hz
   replace hnx := Lib.hid hnx
   replace hi := Lib.hid hi
   replace hip := Lib.hid hip
   clear hi16
   go_wp2_with (go_at_call 66; (with_reducible refine FI.out.mono ?_); rintro e w5 ⟨rfl, hb5⟩)
   clear hwn1 hwi1
   go_roundg (gk - 1)
   case measure => have := hi.out; have := hip.out; omega
   case rel => exact ⟨i + 1, nx, by have := hi.out; have := hip.out; omega, by have := hi.out; have := hip.out; go_num, by have h := hwn.out; rw [← hz.out, hnx.out] at h; first | rfl | (simp; exact h), hnx.out.symm, below_chain hb5 hbx⟩
  ·
   obtain rfl : p = i := by omega
   replace hz := Lib.hid hz
   have hipi : ¬ (p : Int) < (p : Int) := by omega
   go_wp2_with fail
   refine wp_loop_rounds 1 ?_
   rw [rounds_succ]
   cases o1
   ·
    have E1c : ((z : Int) != S1) = true := by rw [hz.out]; exact E1b
    clear E1b hz
    go_wp2_with fail
    go_ret
    exact ⟨rfl, below_chain hbx hb0.out⟩
   ·
    have E1c : ((z : Int) != S1) = false := by rw [hz.out]; exact E1b
    clear E1b hz
    go_wp2_with fail
    rw [rounds_succ]
    go_wp2_with fail
    clear E1a E1c c0 c1 c2 hipi
    go_loopg [10, 42] p (fun gk nv iv wx => ∃ i z : Nat, i + gk = p ∧ iv = .int .i64 (i : Int) ∧ nv = .int .i64 (z : Int) ∧ z = i * m2 ∧ Below w1.heap.size w1 wx)
    case atStart => exact ⟨0, 0, by omega, rfl, rfl, by simp, hbx⟩
    case round =>
     obtain ⟨i, z, hi, rfl, rfl, hz, hby⟩ := hrel
     obtain ⟨c0, c1, c2⟩ := RC.out _ hby
     by_cases hip : i < p
     ·
      have hipi : (i : Int) < (p : Int) := by omega
      have FI := Lib.hid (F2.out _ (below_chain hby hb0.out) i hip)
      have hi16 : i ≤ 16 := by omega
      have hwi := Lib.hid (wrap_small ((i : Int) + 1) (by omega) (by omega))
      have hwn := Lib.hid (wrap_next (i := i) (m := m2) hi16 hm2.out)
      obtain ⟨nx, hnx⟩ : ∃ n : Nat, (i + 1) * m2 = n := ⟨_, rfl⟩
      have hwn1 : wrap64 ((z : Int) + (m2 : Int)) = (nx : Int) := by have h := hwn.out; rw [← hz, hnx] at h; exact h
      have hwi1 := hwi.out
      replace hz := Lib.hid hz
      replace hnx := Lib.hid hnx
      replace hi := Lib.hid hi
      replace hip := Lib.hid hip
      clear hi16
      go_wp2_with (go_at_call 66; (with_reducible refine FI.out.mono ?_); rintro e w5 ⟨rfl, hb5⟩)
      clear hwn1 hwi1
      go_roundg (gk - 1)
      case measure => have := hi.out; have := hip.out; omega
      case rel => exact ⟨i + 1, nx, by have := hi.out; have := hip.out; omega, by have := hi.out; have := hip.out; go_num, by have h := hwn.out; rw [← hz.out, hnx.out] at h; first | rfl | (simp; exact h), hnx.out.symm, below_chain hb5 hby⟩
     ·
      obtain rfl : p = i := by omega
      replace hz := Lib.hid hz
      have hipi : ¬ (p : Int) < (p : Int) := by omega
      go_wp2_with fail
      refine wp_loop_rounds 1 ?_
      rw [rounds_succ]
      cases o2
      ·
       have E2c : ((z : Int) != S2) = true := by rw [hz.out]; exact E2b
       clear E2b hz
       go_wp2_with fail
       go_ret
       exact ⟨rfl, below_chain hby hb0.out⟩
      ·
       have E2c : ((z : Int) != S2) = false := by rw [hz.out]; exact E2b
       clear E2b hz
       go_wp2_with fail
       rw [rounds_succ]
       go_wp2_with fail
       go_ret
       exact ⟨rfl, below_chain hby hb0.out⟩
section
variable {W : World} {bp bs bl ba : Nat} {P : Value} {p a b : Int} {A : Option Addr} {d : Nat}
theorem chk1 (hl : Blk W bl 76 #[.slice A 0 d]) (r : Bool) (E : Calls Tryz.prog 25 #[.slice A 0 d] W fun e w' => e = .returned (.bool r) ∧ Below W.heap.size W w') :
  Calls Tryz.prog 24 #[.pointer (some ⟨bl, 0, none⟩)] W fun e w' => e = .returned (.bool r) ∧ Below W.heap.size W w' := by
 have c0 : W.cell? ⟨bl, 0, none⟩ = some (.slice A 0 d) := hl.cell 0
 replace E := Lib.hid E
 clear hl
 go_enter Tryz.func24, Tryz.ntmps24
 go_wp2_with (go_at_call 25; (refine E.out.mono ?_); rintro e w1 ⟨rfl, hb⟩)
 go_ret
 exact ⟨rfl, hb⟩
theorem chk2 (hl : Blk W bl 76 #[.slice A 0 d]) (ha : Blk W ba 78 #[.slice none 0 0]) (r : Bool) (E : Calls Tryz.prog 27 #[.slice A 0 d, .slice none 0 0] W fun e w' => e = .returned (.bool r) ∧ Below W.heap.size W w') :
  Calls Tryz.prog 26 #[.pointer (some ⟨bl, 0, none⟩), .pointer (some ⟨ba, 0, none⟩)] W fun e w' => e = .returned (.bool r) ∧ Below W.heap.size W w' := by
 have c0 : W.cell? ⟨bl, 0, none⟩ = some (.slice A 0 d) := hl.cell 0
 have c1 : W.cell? ⟨ba, 0, none⟩ = some (.slice none 0 0) := ha.cell 0
 replace E := Lib.hid E
 clear hl ha
 go_enter Tryz.func26, Tryz.ntmps26
 go_wp2_with (go_at_call 27; (refine E.out.mono ?_); rintro e w1 ⟨rfl, hb⟩)
 go_ret
 exact ⟨rfl, hb⟩
theorem chk3 (hp : Blk W bp 41 #[P]) (hl : Blk W bl 76 #[.slice A 0 d]) (r : Bool) (E : Calls Tryz.prog 29 #[P, .slice A 0 d] W fun e w' => e = .returned (.bool r) ∧ Below W.heap.size W w') :
  Calls Tryz.prog 28 #[.pointer (some ⟨bp, 0, none⟩), .pointer (some ⟨bl, 0, none⟩)] W fun e w' => e = .returned (.bool r) ∧ Below W.heap.size W w' := by
 have c0 : W.cell? ⟨bl, 0, none⟩ = some (.slice A 0 d) := hl.cell 0
 have c1 : W.cell? ⟨bp, 0, none⟩ = some P := hp.cell 0
 replace E := Lib.hid E
 clear hl hp
 go_enter Tryz.func28, Tryz.ntmps28
 go_wp2_with (go_at_call 29; (refine E.out.mono ?_); rintro e w1 ⟨rfl, hb⟩)
 go_ret
 exact ⟨rfl, hb⟩
theorem chk4 (hs : Blk W bs 54 #[.int .i64 p, .int .i64 a, .int .i64 b, .bool true]) (hp : Blk W bp 41 #[P]) (ha : Blk W ba 78 #[.slice none 0 0]) (r : Bool) (E : Calls Tryz.prog 31 #[P, .slice none 0 0] W fun e w' => e = .returned (.bool r) ∧ Below W.heap.size W w') :
  Calls Tryz.prog 30 #[.pointer (some ⟨bs, 0, none⟩), .pointer (some ⟨bp, 0, none⟩), .pointer (some ⟨ba, 0, none⟩)] W fun e w' => e = .returned (.bool r) ∧ Below W.heap.size W w' := by
 have c0 : W.cell? ⟨ba, 0, none⟩ = some (.slice none 0 0) := ha.cell 0
 have c1 : W.cell? ⟨bp, 0, none⟩ = some P := hp.cell 0
 have c2 : W.cell? ⟨bs, 3, none⟩ = some (.bool true) := hs.cell 3
 replace E := Lib.hid E
 clear hs hp ha
 go_enter Tryz.func30, Tryz.ntmps30
 go_wp2_with (go_at_call 31; (refine E.out.mono ?_); rintro e w1 ⟨rfl, hb⟩)
 go_ret
 exact ⟨rfl, hb⟩
theorem chk5 (hs : Blk W bs 54 #[.int .i64 p, .int .i64 a, .int .i64 b, .bool true]) (hp : Blk W bp 41 #[P]) (hl : Blk W bl 76 #[.slice A 0 d]) (r : Bool) (E : Calls Tryz.prog 33 #[P, .agg #[.int .i64 p, .int .i64 a, .int .i64 b, .bool true], .slice A 0 d] W fun e w' => e = .returned (.bool r) ∧ Below W.heap.size W w') :
  Calls Tryz.prog 32 #[.pointer (some ⟨bs, 0, none⟩), .pointer (some ⟨bp, 0, none⟩), .pointer (some ⟨bl, 0, none⟩)] W fun e w' => e = .returned (.bool r) ∧ Below W.heap.size W w' := by
 have c0 : W.cell? ⟨bl, 0, none⟩ = some (.slice A 0 d) := hl.cell 0
 have c1 : W.cell? ⟨bp, 0, none⟩ = some P := hp.cell 0
 have s0 : W.cell? ⟨bs, 0, none⟩ = some (.int .i64 p) := hs.cell 0
 have s1 : W.cell? ⟨bs, 1, none⟩ = some (.int .i64 a) := hs.cell 1
 have s2 : W.cell? ⟨bs, 2, none⟩ = some (.int .i64 b) := hs.cell 2
 have s3 : W.cell? ⟨bs, 3, none⟩ = some (.bool true) := hs.cell 3
 replace E := Lib.hid E
 clear hs hp hl
 go_enter Tryz.func32, Tryz.ntmps32
 go_wp2_with (go_at_call 33; (refine E.out.mono ?_); rintro e w1 ⟨rfl, hb⟩)
 go_ret
 exact ⟨rfl, hb⟩
theorem chk6 (ha : Blk W ba 78 #[.slice none 0 0]) (r : Bool) (E : Calls Tryz.prog 35 #[.slice none 0 0] W fun e w' => e = .returned (.bool r) ∧ Below W.heap.size W w') :
  Calls Tryz.prog 34 #[.pointer (some ⟨ba, 0, none⟩)] W fun e w' => e = .returned (.bool r) ∧ Below W.heap.size W w' := by
 have c0 : W.cell? ⟨ba, 0, none⟩ = some (.slice none 0 0) := ha.cell 0
 replace E := Lib.hid E
 clear ha
 go_enter Tryz.func34, Tryz.ntmps34
 go_wp2_with (go_at_call 35; (refine E.out.mono ?_); rintro e w1 ⟨rfl, hb⟩)
 go_ret
 exact ⟨rfl, hb⟩
theorem chk7 (hp : Blk W bp 41 #[P]) (B : Value) (r : Bool) (D : Calls Tryz.prog 38 #[P] W fun e w' => e = .returned B ∧ Below W.heap.size W w')
  (E : ∀ w1, Below W.heap.size W w1 → Calls Tryz.prog 37 #[B] w1 fun e w' => e = .returned (.bool r) ∧ Below w1.heap.size w1 w') :
  Calls Tryz.prog 36 #[.pointer (some ⟨bp, 0, none⟩)] W fun e w' => e = .returned (.bool r) ∧ Below W.heap.size W w' := by
 have c1 : W.cell? ⟨bp, 0, none⟩ = some P := hp.cell 0
 replace E := Lib.hid E
 replace D := Lib.hid D
 clear hp
 go_enter Tryz.func36, Tryz.ntmps36
 go_wp2_with (first
  | (go_at_call 38; (refine D.out.mono ?_); rintro e w1 ⟨rfl, hb⟩)
  | (go_at_call 37; (refine (E.out _ hb).mono ?_); rintro e w2 ⟨rfl, hb2⟩))
 go_ret
 exact ⟨rfl, below_chain hb2 hb⟩
end
end Go.Proofs.YtohapcacckapoaaGreat
