/- addr: Four; addresses compared; the laws' example. -/
import Derived.Test.YtodbgjnccngljaaDoorAdP
import Derived.Laws.StructEq
namespace Go.Proofs.YtodbgjnccngljaaDoor
open Go Go.RowKit Go.Deep

abbrev adrL (v : Bool) (hi lo : Nat) : Value := .agg #[.bool v, .int .u64 (hi : Nat), .int .u64 (lo : Nat)]
def adrB (v : Bool) (hi lo : Nat) (v' : Bool) (hi' lo' : Nat) : Bool := v == v' && (hi == hi' && lo == lo')
theorem adr_eql (v : Bool) (hi lo : Nat) (v' : Bool) (hi' lo' : Nat) (w : World) : (binOp .eql 24 (adrL v hi lo) (adrL v' hi' lo')).run Tryd.prog w = .ok (.bool (adrB v hi lo v' hi' lo')) w := by
  have u4 := Tryd.underlying22
  have a4 := Tryd.isAgg22
  have z4 := Tryd.sizeOf22
  have u5 := Tryd.underlying4
  have a5 := Tryd.isAgg4
  have z5 := Tryd.sizeOf4
  have hS2 : Tryd.prog.underlying 24 = some (.struct (Tryd.prog.fieldsOf 24)) := by kernel_rfl
  have hp2 : Tryd.prog.stoodInHeld 24 = false := by kernel_rfl
  rw [run_eql_struct, show (10000 : Nat) = 9999 + 1 from rfl, run_equalIn_agg w 9999 24 _ _ hS2 hp2]
  clear hS2 hp2
  simp only [Program.fieldsOf, Tryd.underlying24]
  unfold adrB
  go_simp
  by_cases h1 : v = v'
  case neg => simp [h1]
  by_cases h2 : hi = hi'
  case neg =>
    have g2 : ¬ ((hi : Int) = (hi' : Int)) := by omega
    simp [h1, h2, g2]
  by_cases h3 : lo = lo'
  case neg =>
    have g3 : ¬ ((lo : Int) = (lo' : Int)) := by omega
    simp [h1, h2, h3, g3]
  simp [h1, h2, h3]
theorem adrB_iff {v : Bool} {hi lo : Nat} {v' : Bool} {hi' lo' : Nat} : adrB v hi lo v' hi' lo' = true ↔ v = v' ∧ hi = hi' ∧ lo = lo' := by
  unfold adrB; simp
theorem adrB_self (v : Bool) (hi lo : Nat) : adrB v hi lo v hi lo = true := adrB_iff.2 ⟨rfl, rfl, rfl⟩
theorem adr_guard : Tryd.prog.eqGuardType Tryd.prog.depth 24 = false := by kernel_rfl

set_option maxRecDepth 100000 in
theorem addr_four (n : Nat) (w : World) (hn : n < 4294967296) : Calls Tryd.prog 25 #[.int .u32 (n : Nat)] w fun e w' => e = .returned (adrL false 0 n) ∧ Below w.heap.size w w' := by
  have hu : IntKind.u64.wrap (n : Int) = (n : Int) := by rw [IntKind.wrap_u64]; omega
  have hb0 : Below w.heap.size w (w.alloc (.cells #[.bool false, .int .u64 0, .int .u64 0] 24)) := (Below.refl _ _).alloc (Nat.le_refl _) _
  go_enter Tryd.func25, Tryd.ntmps25
  go_wp2_with fail
  have K := Blk.new w 24 #[.bool false, .int .u64 0, .int .u64 (n : Nat)]
  have hb1 : Below w.heap.size w (w.alloc (.cells #[.bool false, .int .u64 0, .int .u64 (n : Nat)] 24)) := (Below.refl _ _).alloc (Nat.le_refl _) _
  generalize w.alloc (.cells #[.bool false, .int .u64 0, .int .u64 (n : Nat)] 24) = w2 at *
  obtain ⟨⟨c0, c1, c2⟩, -, -, -⟩ := blk3 K
  clear K hb0
  refine bodyPost_ret (v := .agg #[.bool false, .int .u64 0, .int .u64 (n : Nat)]) (by simp [results, Tryd.results25, go_sem, *]) rfl ?_
  exact ⟨rfl, hb1⟩

theorem aw_1 : readA [49, 46, 50, 46, 51, 46, 52] = some (false, 0, 16909060) := by decide +kernel
theorem aw_2 : readA [49, 46, 50, 46, 51, 46, 48, 52] = none := by decide +kernel
theorem aw_3 : readA [48, 58, 48, 58, 48, 58, 48, 58, 48, 58, 48, 58, 48, 58, 49] = none := by decide +kernel

set_option maxRecDepth 100000 in
set_option maxHeartbeats 8000000 in
theorem awake04 (w : World) (hw : Std w) : Calls Tryd.prog 6 #[] w fun e w' => e = .returned (.bool true) ∧ Below w.heap.size w w' := by
  have R1 := fun W hW => addr_read [49, 46, 50, 46, 51, 46, 52] W hW (by decide)
  have R2 := fun W hW => addr_read [49, 46, 50, 46, 51, 46, 48, 52] W hW (by decide)
  have R3 := fun W hW => addr_read [48, 58, 48, 58, 48, 58, 48, 58, 48, 58, 48, 58, 48, 58, 49] W hW (by decide)
  rw [aw_1] at R1
  rw [aw_2] at R2
  rw [aw_3] at R3
  replace R1 := Lib.hid (show ∀ W, Std W → Calls Tryd.prog 9 #[.string ⟨#[49, 46, 50, 46, 51, 46, 52]⟩] W fun e w' => e = .returned (.tuple #[.agg #[.bool false, .int .u64 0, .int .u64 16909060], .bool true]) ∧ Below W.heap.size W w' from R1)
  replace R2 := Lib.hid (show ∀ W, Std W → Calls Tryd.prog 9 #[.string ⟨#[49, 46, 50, 46, 51, 46, 48, 52]⟩] W fun e w' => e = .returned (.tuple #[.agg #[.bool false, .int .u64 0, .int .u64 0], .bool false]) ∧ Below W.heap.size W w' from R2)
  replace R3 := Lib.hid (show ∀ W, Std W → Calls Tryd.prog 9 #[.string ⟨#[48, 58, 48, 58, 48, 58, 48, 58, 48, 58, 48, 58, 48, 58, 49]⟩] W fun e w' => e = .returned (.tuple #[.agg #[.bool false, .int .u64 0, .int .u64 0], .bool false]) ∧ Below W.heap.size W w' from R3)
  have F := Lib.hid (show ∀ W, Calls Tryd.prog 25 #[.int .u32 16909060] W fun e w' => e = .returned (.agg #[.bool false, .int .u64 0, .int .u64 16909060]) ∧ Below W.heap.size W w' from fun W => addr_four 16909060 W (by decide))
  have hE : ∀ W, (binOp .eql 24 (.agg #[.bool false, .int .u64 0, .int .u64 16909060]) (.agg #[.bool false, .int .u64 0, .int .u64 16909060])).run Tryd.prog W = .ok (.bool true) W := fun W => adr_eql false 0 16909060 false 0 16909060 W
  have hG := adr_guard
  replace hw := Lib.hid hw
  go_enter Tryd.func6, Tryd.ntmps6
  go_upto_region 2 with (go_at_call 9; (with_reducible refine (R1.out _ hw.out).mono ?_); rintro e w1 ⟨rfl, hb1⟩)
  have K1 := Blk.new w1 24 #[.bool false, .int .u64 0, .int .u64 16909060]
  have hbA := below_alloc hb1 (.cells #[.bool false, .int .u64 0, .int .u64 16909060] 24)
  generalize w1.alloc (.cells #[.bool false, .int .u64 0, .int .u64 16909060] 24) = w2 at *
  generalize w1.heap.size = g1 at *
  clear hb1
  go_upto_region 3 with (go_at_call 9; (with_reducible refine (R2.out _ (hw.out.below hbA)).mono ?_); rintro e w3 ⟨rfl, hb3⟩)
  have K2 := (K1.call hb3).alloc (.cells #[.bool false, .int .u64 0, .int .u64 0] 24)
  replace hbA := below_alloc (below_chain hb3 hbA) (.cells #[.bool false, .int .u64 0, .int .u64 0] 24)
  generalize w3.alloc (.cells #[.bool false, .int .u64 0, .int .u64 0] 24) = w4 at *
  clear hb3 K1
  go_upto_region 4 with (go_at_call 9; (with_reducible refine (R3.out _ (hw.out.below hbA)).mono ?_); rintro e w5 ⟨rfl, hb5⟩)
  have K3 := (K2.call hb5).alloc (.cells #[.bool false, .int .u64 0, .int .u64 0] 24)
  replace hbA := below_alloc (below_chain hb5 hbA) (.cells #[.bool false, .int .u64 0, .int .u64 0] 24)
  generalize w5.alloc (.cells #[.bool false, .int .u64 0, .int .u64 0] 24) = w6 at *
  clear hb5 K2
  obtain ⟨⟨c0, c1, c2⟩, -, -, -⟩ := blk3 K3
  clear K3
  replace hbA := Lib.hid hbA
  go_region_held3 (fun W => Below w6.heap.size w6 W ∧ W.cell? ⟨g1, 0, none⟩ = some (.bool false) ∧ W.cell? ⟨g1, 1, none⟩ = some (.int .u64 0) ∧ W.cell? ⟨g1, 2, none⟩ = some (.int .u64 16909060)) ((first | assumption | ((refine ⟨?_, ?_⟩; (first | assumption | exact (Below.refl _ _).drew | exact Below.refl _ _); go_keep)))) (first
    | (go_at_call 25; (with_reducible refine (F.out _).mono ?_); rintro e w7 ⟨rfl, hb7⟩; have hS := hold3 (by assumption) hb7))
  all_goals
    rename_i hHeld
    go_wp2_with fail
    go_ret
    exact ⟨rfl, below_chain hHeld.1 hbA.out⟩
end Go.Proofs.YtodbgjnccngljaaDoor
