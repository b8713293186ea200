/- For every list of packets, cloakroomlaw18.ConnGrows returns true and leaves its argument as it was. No conditions. -/
import Derived.Test.YtdkcjfcjckpjcaaConnAwake
import Derived.Test.YtdkcjfcjckpjcaaRows
namespace Go.Proofs.Ytdkcjfcjckpjcaa
open Go Go.RowKit Go.Deep Go.ChangeShapes Go.WideShapes

theorem begin6 (b : Int) : beginS 6 b = 0 ∨ beginS 6 b = 1 := by unfold beginS; repeat' split <;> simp_all
theorem next_facts (s b : Int) (h0 : 0 ≤ s) (h4 : s ≤ 4) : 0 ≤ nextS s b ∧ nextS s b ≤ 4 ∧ s ≤ nextS s b ∧ (s = 0 → nextS s b = 0) ∧ (0 < s → hasB b 4 = true → nextS s b = 4) := by
  unfold nextS
  by_cases h1 : s < 1 ∨ 3 < s
  · rw [if_pos h1]; omega
  · rw [if_neg h1]
    by_cases h2 : hasB b 4 = true
    · rw [if_pos h2]; omega
    · rw [if_neg h2]
      refine ⟨?_, ?_, ?_, ?_, fun _ h => absurd h h2⟩ <;> (repeat' split) <;> omega
theorem grows (l : List Int) (k : Nat) (hk : k < l.length) : 0 ≤ (runS 6 l).getD k 0 ∧ (runS 6 l).getD k 0 ≤ 4 ∧ ((runS 6 l).getD 0 0 > 0 → 0 < (runS 6 l).getD k 0) := by
  induction k with
  | zero =>
    rw [runS_zero 6 l hk]
    rcases begin6 (l.getD 0 0) with h | h <;> rw [h] <;> omega
  | succ k ih =>
    have ih := ih (by omega)
    have := next_facts _ (l.getD (k + 1) 0) ih.1 ih.2.1
    rw [runS_succ 6 l k hk]
    refine ⟨this.1, this.2.1, fun h => ?_⟩
    have := ih.2.2 h
    omega
theorem grows_step (l : List Int) (k : Nat) (hk : k + 1 < l.length) : (runS 6 l).getD k 0 ≤ (runS 6 l).getD (k + 1) 0 ∧ ((runS 6 l).getD k 0 = 0 → (runS 6 l).getD (k + 1) 0 = 0) ∧
    ((runS 6 l).getD 0 0 > 0 → hasB (l.getD (k + 1) 0) 4 = true → (runS 6 l).getD (k + 1) 0 = 4) := by
  have g := grows l k (by omega)
  have := next_facts _ (l.getD (k + 1) 0) g.1 g.2.1
  rw [runS_succ 6 l k hk]
  exact ⟨this.2.2.1, this.2.2.2.1, fun h h' => this.2.2.2.2 (g.2.2 h) h'⟩
theorem datagrams (l : List Int) (k : Nat) (hk : k < l.length) : (runS 17 l).getD k 0 = 5 := by
  induction k with
  | zero => rw [runS_zero 17 l hk]; rfl
  | succ k ih => rw [runS_succ 17 l k hk, ih (by omega)]; rfl

set_option maxRecDepth 100000 in
set_option maxHeartbeats 2000000 in
theorem connGrows_calls (A : Option Addr) (c : Nat) (l : List Int) (w : World) (hr : Reads w w.heap.size 1 A l.length (l.map (.int .i64))) (hm : l.length ≤ 9223372036854775807) :
    Calls Try.prog 3 #[.slice A l.length c] w fun e w' => e = .returned (.bool true) ∧ Below w.heap.size w w' := by
  by_cases hlen : 30 < l.length
  · have h : (30 : Int) < (l.length : Int) := by omega
    go_enter Try.func3, Try.ntmps3
    go_wp2_with (go_at_call 16; refine (awake18 _).mono ?_; rintro e w1 ⟨rfl, hb1⟩)
    go_ret
    exact ⟨rfl, hb1⟩
  · have h : ¬ (30 : Int) < (l.length : Int) := by omega
    go_enter Try.func3, Try.ntmps3
    go_wp2_with fail
    refine (run_any 6 A c l w hr (by omega)).mono ?_
    rintro e w1 ⟨rfl, hrow1, hb1⟩
    go_wp2_with fail
    refine (run_any 17 A c l w1 ((hr.below hb1).more hb1.size) (by omega)).mono ?_
    rintro e w2 ⟨rfl, hrow2, hb2⟩
    have hrow1 := hrow1.of_block (hb2.block _ hrow1.lt)
    have hb := below_call hb1 hb1.size hb2
    have hr2 := hr.below hb
    clear hb1 hb2 hr
    go_wp2_with fail
    go_loopw [5] (fun i wr => ∃ k m : Nat, k ≤ l.length ∧ i = .int .i64 k ∧ wr = w2.drewN m) (fun i _ => l.length - (intOf i).toNat)
    case atStart => exact ⟨0, 0, Nat.zero_le _, rfl, rfl⟩
    case round =>
      obtain ⟨k, m, hk, rfl, rfl⟩ := hrel
      by_cases hlt : k < l.length
      · obtain ⟨ad, rfl, had, hcl⟩ := hr2.int_at hlt
        have hca := hrow1.cell hlt
        have hcb := hrow2.cell hlt
        have hc0 := hrow1.cell (i := 0) (by omega)
        have g := grows l k hlt
        rw [datagrams l k hlt] at hcb
        have G0 := Lib.hid (grows_step l (k - 1))
        obtain ⟨x, hx⟩ : ∃ x, x = (runS 6 l).getD k 0 := ⟨_, rfl⟩
        obtain ⟨z, hz⟩ : ∃ z, z = (runS 6 l).getD 0 0 := ⟨_, rfl⟩
        obtain ⟨t, ht⟩ : ∃ t, t = l.getD k 0 := ⟨_, rfl⟩
        rw [← hx] at hca g
        rw [← hz] at hc0 g
        rw [← ht] at hcl
        replace hx := Lib.hid hx
        replace hz := Lib.hid hz
        replace ht := Lib.hid ht
        obtain ⟨gx0, gx4, -⟩ := g
        have hlti : ((k : Int)) < (l.length : Int) := by omega
        have h0l : (0 : Int) < (l.length : Int) := by omega
        by_cases hk0 : k = 0
        · replace hk0 := Lib.hid hk0
          have hd : decide (0 < k) = false := by simp [hk0.out]
          go_wp2_with fail
          go_quiet (fail)
          go_wp2_with fail
          go_roundw
          case rel => exact ⟨k + 1, _, by omega, by go_num, rfl⟩
          case measure => simp [intOf]; omega
        · have hp : 1 ≤ k := by omega
          have hpi : (0 : Int) < (k : Int) := by omega
          have hcp := hrow1.cell (i := k - 1) (by omega)
          obtain ⟨y, hy⟩ : ∃ y, y = (runS 6 l).getD (k - 1) 0 := ⟨_, rfl⟩
          have G := G0.out (by omega)
          rw [Nat.sub_add_cancel hp, ← hx.out, ← hy, ← hz.out, ← ht.out] at G
          rw [← hy] at hcp
          replace hy := Lib.hid hy
          obtain ⟨G1, G2, G3⟩ := G
          replace G2 := Lib.hid G2
          replace G3 := Lib.hid G3
          clear G0 hk0
          have hd : decide (0 < k) = true := by simp; omega
          have d1 : decide (x < y) = false := by simp; omega
          by_cases c1 : y = 0
          · have e1 : (y == 0) = true := by simp [c1]
            have e2 : (x != 0) = false := by simp [G2.out c1]
            clear c1
            by_cases c2 : 0 < z
            · have e3 : decide (0 < z) = true := by simp [c2]
              by_cases c3 : hasB t 4 = true
              · have e4 : (bits BinOp.and IntKind.i64 t 4 == 4) = true := c3
                have e5 : (x != 4) = false := by simp [G3.out c2 c3]
                clear c3
                go_wp2_with fail
                go_quiet (fail)
                go_wp2_with fail
                go_roundw
                case rel => exact ⟨k + 1, _, by omega, by go_num, rfl⟩
                case measure => simp [intOf]; omega
              · have e4 : (bits BinOp.and IntKind.i64 t 4 == 4) = false := by unfold hasB at c3; simpa using c3
                clear c3
                go_wp2_with fail
                go_quiet (fail)
                go_wp2_with fail
                go_roundw
                case rel => exact ⟨k + 1, _, by omega, by go_num, rfl⟩
                case measure => simp [intOf]; omega
            · have e3 : decide (0 < z) = false := by simp; omega
              go_wp2_with fail
              go_quiet (fail)
              go_wp2_with fail
              go_roundw
              case rel => exact ⟨k + 1, _, by omega, by go_num, rfl⟩
              case measure => simp [intOf]; omega
          · have e1 : (y == 0) = false := by simp [c1]
            clear c1
            by_cases c2 : 0 < z
            · have e3 : decide (0 < z) = true := by simp [c2]
              by_cases c3 : hasB t 4 = true
              · have e4 : (bits BinOp.and IntKind.i64 t 4 == 4) = true := c3
                have e5 : (x != 4) = false := by simp [G3.out c2 c3]
                clear c3
                go_wp2_with fail
                go_quiet (fail)
                go_wp2_with fail
                go_roundw
                case rel => exact ⟨k + 1, _, by omega, by go_num, rfl⟩
                case measure => simp [intOf]; omega
              · have e4 : (bits BinOp.and IntKind.i64 t 4 == 4) = false := by unfold hasB at c3; simpa using c3
                clear c3
                go_wp2_with fail
                go_quiet (fail)
                go_wp2_with fail
                go_roundw
                case rel => exact ⟨k + 1, _, by omega, by go_num, rfl⟩
                case measure => simp [intOf]; omega
            · have e3 : decide (0 < z) = false := by simp; omega
              go_wp2_with fail
              go_quiet (fail)
              go_wp2_with fail
              go_roundw
              case rel => exact ⟨k + 1, _, by omega, by go_num, rfl⟩
              case measure => simp [intOf]; omega
      · go_wp2_with (go_at_call 16; refine (awake18 _).mono ?_; rintro e w1 ⟨rfl, hb1⟩)
        go_ret
        exact ⟨rfl, below_call2 hb1 (below_drewN hb _) hb.size⟩

set_option maxRecDepth 100000 in
theorem connGrows_lifted (os : Os) (started : os.Started) (H : Type) (enc : TypeId × Value → H) :
    ReturnsInHanded {} Try.checked os 3 .any (Rows.connGrowsSpec.pre6 enc Try.prog Try.f3 Rows.connGrowsRow.domain false)
      (Rows.connGrowsSpec.post enc Try.prog Try.f3 false true false false) := by
  refine returnsInHanded_of_change (C := Try.checked) own started (by kernel_rfl) Try.func3
    (ChangeSpec.witness6 (enc := enc) (C := Try.checked) false ⟨#[], #[.slice none 0 0], []⟩ 8 (by kernel_rfl) (by kernel_rfl) (by kernel_rfl) (by kernel_rfl)) ?_
  intro W base args ds gs before hval hW _ _
  refine law_post laidOut (by kernel_rfl) rfl rfl Try.underlying4 ?_ hW ?_
  · intro ds hds
    match ds, hds with
    | [d], _ => exact ⟨rfl, rfl, rfl⟩
  · obtain ⟨p, q, hA, hV, rfl, hfz, hnd⟩ := hW
    replace hA : DataW.TrodAll enc Try.prog W 0 (fun _ => true) true Try.f3.params.toList args.toList ds p := hA
    replace hval : ∀ (j : Nat) t v, Try.f3.params[j]? = some t → args[j]? = some v → Value.okWide Try.prog W .any base t v := hval
    rw [Try.params3] at hA hval
    obtain ⟨v0, d0, rfl, rfl, h0⟩ := trodAll_one hA
    obtain ⟨A0, c0, x0, rfl, hr0, _, hm0⟩ := open_int_slice Try.underlying22 Try.underlying3 cells_int (hval 0 22 v0 rfl rfl) h0
    unfold maxLen at hm0
    exact connGrows_calls A0 c0 x0 W hr0 hm0

theorem connGrows_holds : Rows.ConnGrowsSaid :=
  OpenClaim.holds_of_wide 3 Try.f3 rfl rfl rfl rfl rfl rfl rfl ⟨rfl, rfl, rfl, rfl, rfl⟩ rfl rfl rfl rfl rfl (by kernel_rfl) Try.func3 (by kernel_rfl)
    (of_decide_eq_true (by kernel_rfl)) (by unfold Func.isWrapper; rw [if_neg (of_decide_eq_false (by kernel_rfl))]; exact ⟨rfl, rfl⟩)
    (fun os started H enc _ => connGrows_lifted os started H enc)
end Go.Proofs.Ytdkcjfcjckpjcaa
