/- Law 40: lines of acts, and acts of lines, are the document's. -/
import Derived.Test.YtodbgjnccngljaaGreatDoorJ36
namespace Go.Proofs.YtodbgjnccngljaaGreatDoor
open Go Go.RowKit Go.Deep
theorem parseV_eq (o : Option ActL) : parseV o = .tuple #[.agg (actCs (o.getD (zeroL 0))), .bool o.isSome] := by cases o <;> rfl
set_option maxRecDepth 100000 in
set_option maxHeartbeats 16000000 in
theorem lines_long (x : ActL) (l : List UInt8) (w : World) (hw : Std w) (hs : 200 < x.s.length) (_hl : l.length ≤ 9223372036854775807) :
  Calls Tryz.prog 3 #[.agg #[.int .i64 x.k, .int .i64 x.at_, .int .i64 x.id, .int .i64 x.n, .string ⟨x.s.toArray⟩, .int .u64 ((x.a : Nat) : Int), .int .u64 ((x.b : Nat) : Int), .bool x.on, .bool x.v6, .int .u64 ((x.hi : Nat) : Int), .int .u64 ((x.lo : Nat) : Int), .int .i64 x.pk, .int .i64 x.ps], .string ⟨l.toArray⟩] w fun e w' => e = .returned (.bool true) ∧ Below w.heap.size w w' := by
 obtain ⟨w1, hw1⟩ : ∃ w1, w1 = w.alloc (.cells #[.int .i64 x.k, .int .i64 x.at_, .int .i64 x.id, .int .i64 x.n, .string ⟨x.s.toArray⟩, .int .u64 ((x.a : Nat) : Int), .int .u64 ((x.b : Nat) : Int), .bool x.on, .bool x.v6, .int .u64 ((x.hi : Nat) : Int), .int .u64 ((x.lo : Nat) : Int), .int .i64 x.pk, .int .i64 x.ps] 28) := ⟨_, rfl⟩
 have hb1 : Below w.heap.size w w1 := hw1 ▸ below_alloc (Below.refl _ _) _
 have h1 : Blk w1 w.heap.size 28 (actCs x) := by rw [hw1]; exact Blk.new w 28 _
 obtain ⟨c0, c1, c2, c3, c4, c5, c6, c7, c8, c9, c10, c11, c12⟩ := act13 h1
 have g1 : (200 : Int) < (x.s.length : Int) := by omega
 have AW := Lib.hid (law_awake w1 (hw.below hb1))
 clear h1 hw
 replace hb1 := Lib.hid hb1
 go_enter Tryz.func3, Tryz.ntmps3
 go_upto_region 1 with fail
 rw [← hw1]
 clear hw1
 go_wp2_with (go_at_call 5; (refine AW.out.mono ?_); rintro e w3 ⟨rfl, hb3⟩)
 go_ret
 exact ⟨rfl, below_chain hb3 hb1.out⟩
set_option maxRecDepth 100000 in
set_option maxHeartbeats 16000000 in
theorem lines_far (x : ActL) (l : List UInt8) (w : World) (hw : Std w) (hs : ¬ 200 < x.s.length) (hl : 300 < l.length) :
  Calls Tryz.prog 3 #[.agg #[.int .i64 x.k, .int .i64 x.at_, .int .i64 x.id, .int .i64 x.n, .string ⟨x.s.toArray⟩, .int .u64 ((x.a : Nat) : Int), .int .u64 ((x.b : Nat) : Int), .bool x.on, .bool x.v6, .int .u64 ((x.hi : Nat) : Int), .int .u64 ((x.lo : Nat) : Int), .int .i64 x.pk, .int .i64 x.ps], .string ⟨l.toArray⟩] w fun e w' => e = .returned (.bool true) ∧ Below w.heap.size w w' := by
 obtain ⟨w1, hw1⟩ : ∃ w1, w1 = w.alloc (.cells #[.int .i64 x.k, .int .i64 x.at_, .int .i64 x.id, .int .i64 x.n, .string ⟨x.s.toArray⟩, .int .u64 ((x.a : Nat) : Int), .int .u64 ((x.b : Nat) : Int), .bool x.on, .bool x.v6, .int .u64 ((x.hi : Nat) : Int), .int .u64 ((x.lo : Nat) : Int), .int .i64 x.pk, .int .i64 x.ps] 28) := ⟨_, rfl⟩
 have hb1 : Below w.heap.size w w1 := hw1 ▸ below_alloc (Below.refl _ _) _
 have h1 : Blk w1 w.heap.size 28 (actCs x) := by rw [hw1]; exact Blk.new w 28 _
 obtain ⟨c0, c1, c2, c3, c4, c5, c6, c7, c8, c9, c10, c11, c12⟩ := act13 h1
 have g1 : ¬ (200 : Int) < (x.s.length : Int) := by omega
 have g2 : (300 : Int) < (l.length : Int) := by omega
 have AW := Lib.hid (law_awake w1 (hw.below hb1))
 clear h1 hw
 replace hb1 := Lib.hid hb1
 go_enter Tryz.func3, Tryz.ntmps3
 go_upto_region 1 with fail
 rw [← hw1]
 clear hw1
 go_wp2_with (go_at_call 5; (refine AW.out.mono ?_); rintro e w3 ⟨rfl, hb3⟩)
 go_ret
 exact ⟨rfl, below_chain hb3 hb1.out⟩
set_option maxRecDepth 100000 in
set_option maxHeartbeats 64000000 in
theorem lines_yes (x : ActL) (l : List UInt8) (w : World) (hw : Std w) (hin : inL x) (hs : ¬ 200 < x.s.length) (hl : ¬ 300 < l.length) :
  Calls Tryz.prog 3 #[.agg #[.int .i64 x.k, .int .i64 x.at_, .int .i64 x.id, .int .i64 x.n, .string ⟨x.s.toArray⟩, .int .u64 ((x.a : Nat) : Int), .int .u64 ((x.b : Nat) : Int), .bool x.on, .bool x.v6, .int .u64 ((x.hi : Nat) : Int), .int .u64 ((x.lo : Nat) : Int), .int .i64 x.pk, .int .i64 x.ps], .string ⟨l.toArray⟩] w fun e w' => e = .returned (.bool true) ∧ Below w.heap.size w w' := by
 obtain ⟨w1, hw1⟩ : ∃ w1, w1 = w.alloc (.cells #[.int .i64 x.k, .int .i64 x.at_, .int .i64 x.id, .int .i64 x.n, .string ⟨x.s.toArray⟩, .int .u64 ((x.a : Nat) : Int), .int .u64 ((x.b : Nat) : Int), .bool x.on, .bool x.v6, .int .u64 ((x.hi : Nat) : Int), .int .u64 ((x.lo : Nat) : Int), .int .i64 x.pk, .int .i64 x.ps] 28) := ⟨_, rfl⟩
 have hb1 : Below w.heap.size w w1 := hw1 ▸ below_alloc (Below.refl _ _) _
 have h1 : Blk w1 w.heap.size 28 (actCs x) := by rw [hw1]; exact Blk.new w 28 _
 obtain ⟨c0, c1, c2, c3, c4, c5, c6, c7, c8, c9, c10, c11, c12⟩ := act13 h1
 have g1 : ¬ (200 : Int) < (x.s.length : Int) := by omega
 have g2 : ¬ (300 : Int) < (l.length : Int) := by omega
 have hS1 := hw.below hb1
 have AW := Lib.hid fun W (hb : Below w1.heap.size w1 W) => law_awake W (hS1.below hb)
 have OFx := Lib.hid (law_of x)
 obtain ⟨p, hp⟩ : ∃ p, rightL x = p := ⟨_, rfl⟩
 obtain ⟨S, hS⟩ : ∃ S, (if p then lineL x else []) = S := ⟨_, rfl⟩
 have LN := Lib.hid fun W (hb : Below w1.heap.size w1 W) => (show Calls Tryz.prog 6 #[.agg #[.int .i64 x.k, .int .i64 x.at_, .int .i64 x.id, .int .i64 x.n, .string ⟨x.s.toArray⟩, .int .u64 ((x.a : Nat) : Int), .int .u64 ((x.b : Nat) : Int), .bool x.on, .bool x.v6, .int .u64 ((x.hi : Nat) : Int), .int .u64 ((x.lo : Nat) : Int), .int .i64 x.pk, .int .i64 x.ps]] W fun e w' => e = .returned (.tuple #[.string ⟨S.toArray⟩, .bool p]) ∧ Below W.heap.size W w' from by
  have h := scr_line x W (hS1.below hb) hin (by omega)
  rw [hp, hS] at h
  exact h)
 have RL := Lib.hid fun W => (show Calls Tryz.prog 8 #[.agg #[.int .i64 x.k, .int .i64 x.at_, .int .i64 x.id, .int .i64 x.n, .string ⟨x.s.toArray⟩, .int .u64 ((x.a : Nat) : Int), .int .u64 ((x.b : Nat) : Int), .bool x.on, .bool x.v6, .int .u64 ((x.hi : Nat) : Int), .int .u64 ((x.lo : Nat) : Int), .int .i64 x.pk, .int .i64 x.ps]] W fun e w' => e = .returned (.tuple #[.string ⟨S.toArray⟩, .bool p]) ∧ Below W.heap.size W w' from by
  have h := rs_line x W hin (by omega)
  rw [hp, hS] at h
  exact h)
 have RI := Lib.hid fun W => (show Calls Tryz.prog 11 #[.agg #[.int .i64 x.k, .int .i64 x.at_, .int .i64 x.id, .int .i64 x.n, .string ⟨x.s.toArray⟩, .int .u64 ((x.a : Nat) : Int), .int .u64 ((x.b : Nat) : Int), .bool x.on, .bool x.v6, .int .u64 ((x.hi : Nat) : Int), .int .u64 ((x.lo : Nat) : Int), .int .i64 x.pk, .int .i64 x.ps]] W fun e w' => e = .returned (.bool p) ∧ Below W.heap.size W w' from by
  have h := scr_right x W
  rw [hp] at h
  exact h)
 have RR := Lib.hid fun W => (show Calls Tryz.prog 12 #[.agg #[.int .i64 x.k, .int .i64 x.at_, .int .i64 x.id, .int .i64 x.n, .string ⟨x.s.toArray⟩, .int .u64 ((x.a : Nat) : Int), .int .u64 ((x.b : Nat) : Int), .bool x.on, .bool x.v6, .int .u64 ((x.hi : Nat) : Int), .int .u64 ((x.lo : Nat) : Int), .int .i64 x.pk, .int .i64 x.ps]] W fun e w' => e = .returned (.bool p) ∧ Below W.heap.size W w' from by
  have h := rs_right x W
  rw [hp] at h
  exact h)
 obtain ⟨y, hy⟩ : ∃ y, (parseP l).getD (zeroL 0) = y := ⟨_, rfl⟩
 obtain ⟨q, hq⟩ : ∃ q, (parseP l).isSome = q := ⟨_, rfl⟩
 have PA := Lib.hid fun W (hb : Below w1.heap.size w1 W) => (show Calls Tryz.prog 9 #[.string ⟨l.toArray⟩] W fun e w' => e = .returned (.tuple #[.agg #[.int .i64 y.k, .int .i64 y.at_, .int .i64 y.id, .int .i64 y.n, .string ⟨y.s.toArray⟩, .int .u64 ((y.a : Nat) : Int), .int .u64 ((y.b : Nat) : Int), .bool y.on, .bool y.v6, .int .u64 ((y.hi : Nat) : Int), .int .u64 ((y.lo : Nat) : Int), .int .i64 y.pk, .int .i64 y.ps], .bool q]) ∧ Below W.heap.size W w' from by
  have h := scr_parse l W (hS1.below hb) (by omega)
  rw [parseV_eq, hy, hq] at h
  exact h)
 have PR := Lib.hid fun W => (show Calls Tryz.prog 10 #[.string ⟨l.toArray⟩] W fun e w' => e = .returned (.tuple #[.agg #[.int .i64 y.k, .int .i64 y.at_, .int .i64 y.id, .int .i64 y.n, .string ⟨y.s.toArray⟩, .int .u64 ((y.a : Nat) : Int), .int .u64 ((y.b : Nat) : Int), .bool y.on, .bool y.v6, .int .u64 ((y.hi : Nat) : Int), .int .u64 ((y.lo : Nat) : Int), .int .i64 y.pk, .int .i64 y.ps], .bool q]) ∧ Below W.heap.size W w' from by
  have h := rs_parse l W (by omega)
  rw [parseV_eq, hy, hq] at h
  exact h)
 have OFy := Lib.hid (law_of y)
 have EQ : ∀ W, (binOp .eql 34 (.agg #[.int .i64 y.k, .int .i64 y.at_, .int .i64 y.id, .int .i64 y.n, .string ⟨y.s.toArray⟩, .int .u64 ((y.a : Nat) : Int), .int .u64 ((y.b : Nat) : Int), .bool y.on, .bool y.v6, .int .u64 ((y.hi : Nat) : Int), .int .u64 ((y.lo : Nat) : Int), .int .i64 y.pk, .int .i64 y.ps]) (.agg #[.int .i64 y.k, .int .i64 y.at_, .int .i64 y.id, .int .i64 y.n, .string ⟨y.s.toArray⟩, .int .u64 ((y.a : Nat) : Int), .int .u64 ((y.b : Nat) : Int), .bool y.on, .bool y.v6, .int .u64 ((y.hi : Nat) : Int), .int .u64 ((y.lo : Nat) : Int), .int .i64 y.pk, .int .i64 y.ps])).run Tryz.prog W = .ok (.bool true) W := fun W => by
  have h := act_eql y y W
  rw [show eqL y y = true from eqL_iff.2 rfl] at h
  exact h
 have hG := act_guard
 have e1 : (S == S) = true := by simp
 have e2 : (p == p) = true := by simp
 have e3 : (q == q) = true := by simp
 have hC := Lib.hid fun W (hb : Below w1.heap.size w1 W) => act13 (h1.call hb)
 have hh1 := Lib.hid h1
 replace hp := Lib.hid hp
 replace hS := Lib.hid hS
 replace hy := Lib.hid hy
 replace hq := Lib.hid hq
 clear h1 hw hin hs hl hS1
 replace hb1 := Lib.hid hb1
 go_enter Tryz.func3, Tryz.ntmps3
 go_upto_region 1 with fail
 rw [← hw1]
 clear hw1
 go_upto_region 4 with (first
  | (go_at_call 7; (with_reducible refine (OFx.out _).mono ?_); rintro e w2 ⟨rfl, hb2⟩)
  | (go_at_call 6; (refine (LN.out _ hb2).mono ?_); rintro e w3 ⟨rfl, hb3⟩))
 have hb31 := below_chain hb3 hb2
 clear c0 c1 c2 c3 c4 c5 c6 c7 c8 c9 c10 c11 c12
 obtain ⟨c0, c1, c2, c3, c4, c5, c6, c7, c8, c9, c10, c11, c12⟩ := hC.out _ hb31
 go_upto_region 5 with (go_at_call 8; (with_reducible refine (RL.out _).mono ?_); rintro e w4 ⟨rfl, hb4⟩)
 have hb41 := below_chain hb4 hb31
 clear c0 c1 c2 c3 c4 c5 c6 c7 c8 c9 c10 c11 c12
 go_upto_region 6 with (go_at_call 9; (refine (PA.out _ hb41).mono ?_); rintro e w5 ⟨rfl, hb5⟩)
 have K6 : Blk (w5.alloc (.cells #[.int .i64 y.k, .int .i64 y.at_, .int .i64 y.id, .int .i64 y.n, .string ⟨y.s.toArray⟩, .int .u64 ((y.a : Nat) : Int), .int .u64 ((y.b : Nat) : Int), .bool y.on, .bool y.v6, .int .u64 ((y.hi : Nat) : Int), .int .u64 ((y.lo : Nat) : Int), .int .i64 y.pk, .int .i64 y.ps] 34)) w5.heap.size 34 (actCs y) := Blk.new w5 34 _
 have hb61 := below_alloc (below_chain hb5 hb41) (.cells #[.int .i64 y.k, .int .i64 y.at_, .int .i64 y.id, .int .i64 y.n, .string ⟨y.s.toArray⟩, .int .u64 ((y.a : Nat) : Int), .int .u64 ((y.b : Nat) : Int), .bool y.on, .bool y.v6, .int .u64 ((y.hi : Nat) : Int), .int .u64 ((y.lo : Nat) : Int), .int .i64 y.pk, .int .i64 y.ps] 34)
 generalize w5.alloc (.cells #[.int .i64 y.k, .int .i64 y.at_, .int .i64 y.id, .int .i64 y.n, .string ⟨y.s.toArray⟩, .int .u64 ((y.a : Nat) : Int), .int .u64 ((y.b : Nat) : Int), .bool y.on, .bool y.v6, .int .u64 ((y.hi : Nat) : Int), .int .u64 ((y.lo : Nat) : Int), .int .i64 y.pk, .int .i64 y.ps] 34) = w6 at *
 obtain ⟨g9, hg9⟩ : ∃ g9, w5.heap.size = g9 := ⟨_, rfl⟩
 rw [hg9] at K6 ⊢
 replace hg9 := Lib.hid hg9
 go_upto_region 7 with (go_at_call 10; (with_reducible refine (PR.out _).mono ?_); rintro e w7 ⟨rfl, hb7⟩)
 have K8 : Blk (w7.alloc (.cells #[.int .i64 y.k, .int .i64 y.at_, .int .i64 y.id, .int .i64 y.n, .string ⟨y.s.toArray⟩, .int .u64 ((y.a : Nat) : Int), .int .u64 ((y.b : Nat) : Int), .bool y.on, .bool y.v6, .int .u64 ((y.hi : Nat) : Int), .int .u64 ((y.lo : Nat) : Int), .int .i64 y.pk, .int .i64 y.ps] 28)) w7.heap.size 28 (actCs y) := Blk.new w7 28 _
 have hb81 := below_alloc (below_chain hb7 hb61) (.cells #[.int .i64 y.k, .int .i64 y.at_, .int .i64 y.id, .int .i64 y.n, .string ⟨y.s.toArray⟩, .int .u64 ((y.a : Nat) : Int), .int .u64 ((y.b : Nat) : Int), .bool y.on, .bool y.v6, .int .u64 ((y.hi : Nat) : Int), .int .u64 ((y.lo : Nat) : Int), .int .i64 y.pk, .int .i64 y.ps] 28)
 have K68 := (K6.call hb7).alloc (.cells #[.int .i64 y.k, .int .i64 y.at_, .int .i64 y.id, .int .i64 y.n, .string ⟨y.s.toArray⟩, .int .u64 ((y.a : Nat) : Int), .int .u64 ((y.b : Nat) : Int), .bool y.on, .bool y.v6, .int .u64 ((y.hi : Nat) : Int), .int .u64 ((y.lo : Nat) : Int), .int .i64 y.pk, .int .i64 y.ps] 28)
 generalize w7.alloc (.cells #[.int .i64 y.k, .int .i64 y.at_, .int .i64 y.id, .int .i64 y.n, .string ⟨y.s.toArray⟩, .int .u64 ((y.a : Nat) : Int), .int .u64 ((y.b : Nat) : Int), .bool y.on, .bool y.v6, .int .u64 ((y.hi : Nat) : Int), .int .u64 ((y.lo : Nat) : Int), .int .i64 y.pk, .int .i64 y.ps] 28) = w8 at *
 obtain ⟨g11, hg11⟩ : ∃ g11, w7.heap.size = g11 := ⟨_, rfl⟩
 rw [hg11] at K8 ⊢
 replace hg11 := Lib.hid hg11
 have hD := Lib.hid fun W (hb : Below w8.heap.size w8 W) => (show (W.cell? ⟨w.heap.size, 0, none⟩ = some (.int .i64 x.k) ∧ W.cell? ⟨w.heap.size, 1, none⟩ = some (.int .i64 x.at_) ∧ W.cell? ⟨w.heap.size, 2, none⟩ = some (.int .i64 x.id) ∧ W.cell? ⟨w.heap.size, 3, none⟩ = some (.int .i64 x.n) ∧ W.cell? ⟨w.heap.size, 4, none⟩ = some (.string ⟨x.s.toArray⟩) ∧ W.cell? ⟨w.heap.size, 5, none⟩ = some (.int .u64 ((x.a : Nat) : Int)) ∧ W.cell? ⟨w.heap.size, 6, none⟩ = some (.int .u64 ((x.b : Nat) : Int)) ∧ W.cell? ⟨w.heap.size, 7, none⟩ = some (.bool x.on) ∧ W.cell? ⟨w.heap.size, 8, none⟩ = some (.bool x.v6) ∧ W.cell? ⟨w.heap.size, 9, none⟩ = some (.int .u64 ((x.hi : Nat) : Int)) ∧ W.cell? ⟨w.heap.size, 10, none⟩ = some (.int .u64 ((x.lo : Nat) : Int)) ∧ W.cell? ⟨w.heap.size, 11, none⟩ = some (.int .i64 x.pk) ∧ W.cell? ⟨w.heap.size, 12, none⟩ = some (.int .i64 x.ps)) ∧ (W.cell? ⟨g9, 0, none⟩ = some (.int .i64 y.k) ∧ W.cell? ⟨g9, 1, none⟩ = some (.int .i64 y.at_) ∧ W.cell? ⟨g9, 2, none⟩ = some (.int .i64 y.id) ∧ W.cell? ⟨g9, 3, none⟩ = some (.int .i64 y.n) ∧ W.cell? ⟨g9, 4, none⟩ = some (.string ⟨y.s.toArray⟩) ∧ W.cell? ⟨g9, 5, none⟩ = some (.int .u64 ((y.a : Nat) : Int)) ∧ W.cell? ⟨g9, 6, none⟩ = some (.int .u64 ((y.b : Nat) : Int)) ∧ W.cell? ⟨g9, 7, none⟩ = some (.bool y.on) ∧ W.cell? ⟨g9, 8, none⟩ = some (.bool y.v6) ∧ W.cell? ⟨g9, 9, none⟩ = some (.int .u64 ((y.hi : Nat) : Int)) ∧ W.cell? ⟨g9, 10, none⟩ = some (.int .u64 ((y.lo : Nat) : Int)) ∧ W.cell? ⟨g9, 11, none⟩ = some (.int .i64 y.pk) ∧ W.cell? ⟨g9, 12, none⟩ = some (.int .i64 y.ps)) ∧ (W.cell? ⟨g11, 0, none⟩ = some (.int .i64 y.k) ∧ W.cell? ⟨g11, 1, none⟩ = some (.int .i64 y.at_) ∧ W.cell? ⟨g11, 2, none⟩ = some (.int .i64 y.id) ∧ W.cell? ⟨g11, 3, none⟩ = some (.int .i64 y.n) ∧ W.cell? ⟨g11, 4, none⟩ = some (.string ⟨y.s.toArray⟩) ∧ W.cell? ⟨g11, 5, none⟩ = some (.int .u64 ((y.a : Nat) : Int)) ∧ W.cell? ⟨g11, 6, none⟩ = some (.int .u64 ((y.b : Nat) : Int)) ∧ W.cell? ⟨g11, 7, none⟩ = some (.bool y.on) ∧ W.cell? ⟨g11, 8, none⟩ = some (.bool y.v6) ∧ W.cell? ⟨g11, 9, none⟩ = some (.int .u64 ((y.hi : Nat) : Int)) ∧ W.cell? ⟨g11, 10, none⟩ = some (.int .u64 ((y.lo : Nat) : Int)) ∧ W.cell? ⟨g11, 11, none⟩ = some (.int .i64 y.pk) ∧ W.cell? ⟨g11, 12, none⟩ = some (.int .i64 y.ps)) from ⟨act13 (hh1.out.call (below_chain hb hb81)), act13 (K68.call hb), act13 (K8.call hb)⟩)
 have hb8 := Lib.hid hb81
 clear hb2 hb3 hb31 hb4 hb41 hb5 K6 hb61 hb7 K8 K68 hb81
 have hbD := (Below.refl w8.heap.size w8).drew
 refine wp_region_held_drew (S := fun W => Below w8.heap.size w8 W ∧ (W.cell? ⟨w.heap.size, 0, none⟩ = some (.int .i64 x.k) ∧ W.cell? ⟨w.heap.size, 1, none⟩ = some (.int .i64 x.at_) ∧ W.cell? ⟨w.heap.size, 2, none⟩ = some (.int .i64 x.id) ∧ W.cell? ⟨w.heap.size, 3, none⟩ = some (.int .i64 x.n) ∧ W.cell? ⟨w.heap.size, 4, none⟩ = some (.string ⟨x.s.toArray⟩) ∧ W.cell? ⟨w.heap.size, 5, none⟩ = some (.int .u64 ((x.a : Nat) : Int)) ∧ W.cell? ⟨w.heap.size, 6, none⟩ = some (.int .u64 ((x.b : Nat) : Int)) ∧ W.cell? ⟨w.heap.size, 7, none⟩ = some (.bool x.on) ∧ W.cell? ⟨w.heap.size, 8, none⟩ = some (.bool x.v6) ∧ W.cell? ⟨w.heap.size, 9, none⟩ = some (.int .u64 ((x.hi : Nat) : Int)) ∧ W.cell? ⟨w.heap.size, 10, none⟩ = some (.int .u64 ((x.lo : Nat) : Int)) ∧ W.cell? ⟨w.heap.size, 11, none⟩ = some (.int .i64 x.pk) ∧ W.cell? ⟨w.heap.size, 12, none⟩ = some (.int .i64 x.ps)) ∧ (W.cell? ⟨g9, 0, none⟩ = some (.int .i64 y.k) ∧ W.cell? ⟨g9, 1, none⟩ = some (.int .i64 y.at_) ∧ W.cell? ⟨g9, 2, none⟩ = some (.int .i64 y.id) ∧ W.cell? ⟨g9, 3, none⟩ = some (.int .i64 y.n) ∧ W.cell? ⟨g9, 4, none⟩ = some (.string ⟨y.s.toArray⟩) ∧ W.cell? ⟨g9, 5, none⟩ = some (.int .u64 ((y.a : Nat) : Int)) ∧ W.cell? ⟨g9, 6, none⟩ = some (.int .u64 ((y.b : Nat) : Int)) ∧ W.cell? ⟨g9, 7, none⟩ = some (.bool y.on) ∧ W.cell? ⟨g9, 8, none⟩ = some (.bool y.v6) ∧ W.cell? ⟨g9, 9, none⟩ = some (.int .u64 ((y.hi : Nat) : Int)) ∧ W.cell? ⟨g9, 10, none⟩ = some (.int .u64 ((y.lo : Nat) : Int)) ∧ W.cell? ⟨g9, 11, none⟩ = some (.int .i64 y.pk) ∧ W.cell? ⟨g9, 12, none⟩ = some (.int .i64 y.ps)) ∧ (W.cell? ⟨g11, 0, none⟩ = some (.int .i64 y.k) ∧ W.cell? ⟨g11, 1, none⟩ = some (.int .i64 y.at_) ∧ W.cell? ⟨g11, 2, none⟩ = some (.int .i64 y.id) ∧ W.cell? ⟨g11, 3, none⟩ = some (.int .i64 y.n) ∧ W.cell? ⟨g11, 4, none⟩ = some (.string ⟨y.s.toArray⟩) ∧ W.cell? ⟨g11, 5, none⟩ = some (.int .u64 ((y.a : Nat) : Int)) ∧ W.cell? ⟨g11, 6, none⟩ = some (.int .u64 ((y.b : Nat) : Int)) ∧ W.cell? ⟨g11, 7, none⟩ = some (.bool y.on) ∧ W.cell? ⟨g11, 8, none⟩ = some (.bool y.v6) ∧ W.cell? ⟨g11, 9, none⟩ = some (.int .u64 ((y.hi : Nat) : Int)) ∧ W.cell? ⟨g11, 10, none⟩ = some (.int .u64 ((y.lo : Nat) : Int)) ∧ W.cell? ⟨g11, 11, none⟩ = some (.int .i64 y.pk) ∧ W.cell? ⟨g11, 12, none⟩ = some (.int .i64 y.ps))) (by kernel_rfl) ⟨hbD, hD.out _ hbD⟩ (fun hH => ?_)
 generalize w8.drew = wd0 at *
 refine' tk 0 rfl (by kernel_rfl) ?_ ?_; rotate_left; · ((intro w hSw; (try dsimp only at hSw); go_simp) <;> with_reducible rfl); try go_frame
 refine' tk 3 rfl (by kernel_rfl) ?_ ?_; rotate_left; · ((intro w hSw; (try dsimp only at hSw); go_simp) <;> with_reducible rfl); try go_frame
 refine wpAnyH_ready (rs := [1]) (by kernel_rfl) (by simp) ?_; refine consH rfl (fun K hK => ?_) AllReadyH.nil
 go_simp
 (go_at_call 7; (with_reducible refine (OFx.out _).mono ?_))
 rintro e v1 ⟨rfl, hbv1⟩
 have hbS1 := below_chain hbv1 hH.1
 refine hK.out _ _ ⟨hbS1, hD.out _ hbS1⟩ (fun hH1 => ?_)
 clear hK K
 try go_frame
 refine wpAnyH_ready (rs := [2]) (by kernel_rfl) (by simp) ?_; refine consH rfl (fun K hK => ?_) AllReadyH.nil
 go_simp
 (go_at_call 11; (with_reducible refine (RI.out _).mono ?_))
 rintro e v2 ⟨rfl, hbv2⟩
 have hbS2 := below_chain hbv2 hH1.1
 refine hK.out _ _ ⟨hbS2, hD.out _ hbS2⟩ (fun hH2 => ?_)
 clear hK K
 try go_frame
 refine wpAnyH_ready (rs := [4]) (by kernel_rfl) (by simp) ?_; refine consH rfl (fun K hK => ?_) AllReadyH.nil
 go_simp
 (go_at_call 12; (with_reducible refine (RR.out _).mono ?_))
 rintro e v3 ⟨rfl, hbv3⟩
 have hbS3 := below_chain hbv3 hH2.1
 refine hK.out _ _ ⟨hbS3, hD.out _ hbS3⟩ (fun hH3 => ?_)
 clear hK K
 try go_frame
 refine' tk 5 rfl (by kernel_rfl) ?_ ?_; rotate_left; · ((intro w hSw; (try dsimp only at hSw); go_simp) <;> with_reducible rfl); try go_frame
 refine' tk 6 rfl (by kernel_rfl) ?_ ?_; rotate_left; · ((intro w hSw; (try dsimp only at hSw); go_simp) <;> with_reducible rfl); try go_frame
 refine' tk 7 rfl (by kernel_rfl) ?_ ?_; rotate_left; · ((intro w hSw; (try dsimp only at hSw); go_simp) <;> with_reducible rfl); try go_frame
 refine' tk 8 rfl (by kernel_rfl) ?_ ?_; rotate_left; · ((intro w hSw; (try dsimp only at hSw); go_simp) <;> with_reducible rfl); try go_frame
 refine' tk 9 rfl (by kernel_rfl) ?_ ?_; rotate_left; · ((intro w hSw; (try dsimp only at hSw); go_simp) <;> with_reducible rfl); try go_frame
 refine' tk 10 rfl (by kernel_rfl) ?_ ?_; rotate_left; · ((intro w hSw; (try dsimp only at hSw); go_simp) <;> with_reducible rfl); try go_frame
 refine' tk 11 rfl (by kernel_rfl) ?_ ?_; rotate_left; · ((intro w hSw; (try dsimp only at hSw); go_simp) <;> with_reducible rfl); try go_frame
 refine' tk 12 rfl (by kernel_rfl) ?_ ?_; rotate_left; · ((intro w hSw; (try dsimp only at hSw); go_simp) <;> with_reducible rfl); try go_frame
 refine' tk 13 rfl (by kernel_rfl) ?_ ?_; rotate_left; · ((intro w hSw; (try dsimp only at hSw); go_simp) <;> with_reducible rfl); try go_frame
 refine' tk 14 rfl (by kernel_rfl) ?_ ?_; rotate_left; · ((intro w hSw; (try dsimp only at hSw); go_simp) <;> with_reducible rfl); try go_frame
 refine' tk 15 rfl (by kernel_rfl) ?_ ?_; rotate_left; · ((intro w hSw; (try dsimp only at hSw); go_simp) <;> with_reducible rfl); try go_frame
 refine' tk 16 rfl (by kernel_rfl) ?_ ?_; rotate_left; · ((intro w hSw; (try dsimp only at hSw); go_simp) <;> with_reducible rfl); try go_frame
 refine' tk 17 rfl (by kernel_rfl) ?_ ?_; rotate_left; · ((intro w hSw; (try dsimp only at hSw); go_simp) <;> with_reducible rfl); try go_frame
 refine' tk 18 rfl (by kernel_rfl) ?_ ?_; rotate_left; · ((intro w hSw; (try dsimp only at hSw); go_simp) <;> with_reducible rfl); try go_frame
 refine wpAnyH_ready (rs := [19]) (by kernel_rfl) (by simp) ?_; refine consH rfl (fun K hK => ?_) AllReadyH.nil
 go_simp
 (go_at_call 7; (with_reducible refine (OFy.out _).mono ?_))
 rintro e v4 ⟨rfl, hbv4⟩
 have hbS4 := below_chain hbv4 hH3.1
 refine hK.out _ _ ⟨hbS4, hD.out _ hbS4⟩ (fun hH4 => ?_)
 clear hK K
 try go_frame
 refine' tk 20 rfl (by kernel_rfl) ?_ ?_; rotate_left; · ((intro w hSw; (try dsimp only at hSw); go_simp) <;> with_reducible rfl); try go_frame
 refine' tk 21 rfl (by kernel_rfl) ?_ ?_; rotate_left; · ((intro w hSw; (try dsimp only at hSw); go_simp) <;> with_reducible rfl); try go_frame
 refine' tk 22 rfl (by kernel_rfl) ?_ ?_; rotate_left; · ((intro w hSw; (try dsimp only at hSw); go_simp) <;> with_reducible rfl); try go_frame
 refine' tk 23 rfl (by kernel_rfl) ?_ ?_; rotate_left; · ((intro w hSw; (try dsimp only at hSw); go_simp) <;> with_reducible rfl); try go_frame
 refine' tk 24 rfl (by kernel_rfl) ?_ ?_; rotate_left; · ((intro w hSw; (try dsimp only at hSw); go_simp) <;> with_reducible rfl); try go_frame
 refine' tk 25 rfl (by kernel_rfl) ?_ ?_; rotate_left; · ((intro w hSw; (try dsimp only at hSw); go_simp) <;> with_reducible rfl); try go_frame
 refine' tk 26 rfl (by kernel_rfl) ?_ ?_; rotate_left; · ((intro w hSw; (try dsimp only at hSw); go_simp) <;> with_reducible rfl); try go_frame
 refine' tk 27 rfl (by kernel_rfl) ?_ ?_; rotate_left; · ((intro w hSw; (try dsimp only at hSw); go_simp) <;> with_reducible rfl); try go_frame
 refine wpAnyH_ready (rs := [28]) (by kernel_rfl) (by simp) ?_; refine consH rfl (fun K hK => ?_) AllReadyH.nil
 go_simp
 (go_at_call 5; (with_reducible refine (AW.out _ (below_chain hH4.1 hb8.out)).mono ?_))
 rintro e v5 ⟨rfl, hbv5⟩
 have hbS5 := below_chain hbv5 hH4.1
 refine hK.out _ _ ⟨hbS5, hD.out _ hbS5⟩ (fun hH5 => ?_)
 clear hK K
 try go_frame
 refine' tk 29 rfl (by kernel_rfl) ?_ ?_; rotate_left; · ((intro w hSw; (try dsimp only at hSw); go_simp) <;> with_reducible rfl); try go_frame
 refine' tk 30 rfl (by kernel_rfl) ?_ ?_; rotate_left; · ((intro w hSw; (try dsimp only at hSw); go_simp) <;> with_reducible rfl); try go_frame
 refine wpAnyH_done (by kernel_rfl) ?_ _
 go_wp2_with fail
 go_ret
 exact ⟨rfl, below_chain hH5.1 (below_chain hb8.out hb1.out)⟩
theorem scriptLines_calls (x : ActL) (l : List UInt8) (w : World) (hw : Std w) (hin : actIn x) (hl : l.length ≤ 9223372036854775807) :
  Calls Tryz.prog 3 #[.agg (actCs x), .string ⟨l.toArray⟩] w fun e w' => e = .returned (.bool true) ∧ Below w.heap.size w w' := by
 by_cases hs : 200 < x.s.length
 · exact lines_long x l w hw hs hl
 ·
  by_cases h3 : 300 < l.length
  · exact lines_far x l w hw hs h3
  · exact lines_yes x l w hw hin.1 hs h3
end Go.Proofs.YtodbgjnccngljaaGreatDoor
