/- load and its reference: bears, Less. the reference's loads: Get, set. the reference's loads: set and Add come to the same list. -/
import Derived.Test.YtnmmjchhinfbpaaLoadB
import Derived.Test.YtnmmjchhinfbpaaNum
import Derived.Test.YtnmmjchhinfbpaaKit
namespace Go.Proofs.Ytnmmjchhinfbpaa
open Go Go.RowKit Go.Deep

def bearB (L W : Int) : Bool := decide (0 ≤ L) && decide (L ≤ 1099511627776) && decide (1 ≤ W) && decide (W ≤ 1000)
def lessB (L W i L2 W2 i2 : Int) : Bool := bearB L W && bearB L2 W2 && (decide (L * W2 < L2 * W) || (decide (L * W2 = L2 * W) && decide (i < i2)))
theorem bearB_t {L W : Int} (h : bearB L W = true) : 0 ≤ L ∧ L ≤ 1099511627776 ∧ 1 ≤ W ∧ W ≤ 1000 := by
  simp [bearB] at h; omega
theorem wrap64_id (n : Int) (h : -9223372036854775808 ≤ n ∧ n ≤ 9223372036854775807) : wrap64 n = n := by unfold wrap64; omega
theorem mul_rng {L W : Int} (h1 : 0 ≤ L) (h2 : L ≤ 1099511627776) (h3 : 1 ≤ W) (h4 : W ≤ 1000) : 0 ≤ L * W ∧ L * W ≤ 1099511627776000 := by
  refine ⟨Int.mul_nonneg h1 (by omega), ?_⟩
  have a : L * W ≤ 1099511627776 * W := Int.mul_le_mul_of_nonneg_right h2 (by omega)
  omega
theorem bears_any (L W : Int) (w : World) : Calls Try.prog 107 #[.int .i64 L, .int .i64 W] w fun e w' => e = .returned (.bool (bearB L W)) ∧ w = w' := by
  by_cases h0 : 0 ≤ L
  · have d0 : decide (0 ≤ L) = true := by simpa using h0
    by_cases h1 : L ≤ 1099511627776
    · have d1 : decide (L ≤ 1099511627776) = true := by simpa using h1
      by_cases h2 : 1 ≤ W
      · have d2 : decide (1 ≤ W) = true := by simpa using h2
        by_cases h3 : W ≤ 1000
        · have d3 : decide (W ≤ 1000) = true := by simpa using h3
          have hf : bearB L W = true := by unfold bearB; simp; omega
          rw [hf]
          go_enter Try.func107, Try.ntmps107
          go_wp2_with fail
          go_ret
          exact ⟨rfl, rfl⟩
        · have d3 : decide (W ≤ 1000) = false := by simpa using h3
          have hf : bearB L W = false := by unfold bearB; simp; omega
          rw [hf]
          go_enter Try.func107, Try.ntmps107
          go_wp2_with fail
          go_ret
          exact ⟨rfl, rfl⟩
      · have d2 : decide (1 ≤ W) = false := by simpa using h2
        have hf : bearB L W = false := by unfold bearB; simp; omega
        rw [hf]
        go_enter Try.func107, Try.ntmps107
        go_wp2_with fail
        go_ret
        exact ⟨rfl, rfl⟩
    · have d1 : decide (L ≤ 1099511627776) = false := by simpa using h1
      have hf : bearB L W = false := by unfold bearB; simp; omega
      rw [hf]
      go_enter Try.func107, Try.ntmps107
      go_wp2_with fail
      go_ret
      exact ⟨rfl, rfl⟩
  · have d0 : decide (0 ≤ L) = false := by simpa using h0
    have hf : bearB L W = false := by unfold bearB; simp; omega
    rw [hf]
    go_enter Try.func107, Try.ntmps107
    go_wp2_with fail
    go_ret
    exact ⟨rfl, rfl⟩

set_option maxHeartbeats 2000000 in
theorem refless_any (L W i L2 W2 i2 : Int) (w : World) : Calls Try.prog 49 #[.int .i64 L, .int .i64 W, .int .i64 i, .int .i64 L2, .int .i64 W2, .int .i64 i2] w fun e w' => e = .returned (.bool (lessB L W i L2 W2 i2)) ∧ w = w' := by
  by_cases h0 : L < 0
  · have d0 : decide (L < 0) = true := by simpa using h0
    have hf : lessB L W i L2 W2 i2 = false := by
      have : bearB L W = false ∨ bearB L2 W2 = false := by unfold bearB; simp; omega
      unfold lessB; rcases this with h | h <;> simp [h]
    rw [hf]
    go_enter Try.func49, Try.ntmps49
    go_wp2_with fail
    go_ret
    exact ⟨rfl, rfl⟩
  · have d0 : decide (L < 0) = false := by simpa using h0
    by_cases h1 : 1099511627776 < L
    · have d1 : decide (1099511627776 < L) = true := by simpa using h1
      have hf : lessB L W i L2 W2 i2 = false := by
        have : bearB L W = false ∨ bearB L2 W2 = false := by unfold bearB; simp; omega
        unfold lessB; rcases this with h | h <;> simp [h]
      rw [hf]
      go_enter Try.func49, Try.ntmps49
      go_wp2_with fail
      go_ret
      exact ⟨rfl, rfl⟩
    · have d1 : decide (1099511627776 < L) = false := by simpa using h1
      by_cases h2 : L2 < 0
      · have d2 : decide (L2 < 0) = true := by simpa using h2
        have hf : lessB L W i L2 W2 i2 = false := by
          have : bearB L W = false ∨ bearB L2 W2 = false := by unfold bearB; simp; omega
          unfold lessB; rcases this with h | h <;> simp [h]
        rw [hf]
        go_enter Try.func49, Try.ntmps49
        go_wp2_with fail
        go_ret
        exact ⟨rfl, rfl⟩
      · have d2 : decide (L2 < 0) = false := by simpa using h2
        by_cases h3 : 1099511627776 < L2
        · have d3 : decide (1099511627776 < L2) = true := by simpa using h3
          have hf : lessB L W i L2 W2 i2 = false := by
            have : bearB L W = false ∨ bearB L2 W2 = false := by unfold bearB; simp; omega
            unfold lessB; rcases this with h | h <;> simp [h]
          rw [hf]
          go_enter Try.func49, Try.ntmps49
          go_wp2_with fail
          go_ret
          exact ⟨rfl, rfl⟩
        · have d3 : decide (1099511627776 < L2) = false := by simpa using h3
          by_cases h4 : W < 1
          · have d4 : decide (W < 1) = true := by simpa using h4
            have hf : lessB L W i L2 W2 i2 = false := by
              have : bearB L W = false ∨ bearB L2 W2 = false := by unfold bearB; simp; omega
              unfold lessB; rcases this with h | h <;> simp [h]
            rw [hf]
            go_enter Try.func49, Try.ntmps49
            go_wp2_with fail
            go_ret
            exact ⟨rfl, rfl⟩
          · have d4 : decide (W < 1) = false := by simpa using h4
            by_cases h5 : 1000 < W
            · have d5 : decide (1000 < W) = true := by simpa using h5
              have hf : lessB L W i L2 W2 i2 = false := by
                have : bearB L W = false ∨ bearB L2 W2 = false := by unfold bearB; simp; omega
                unfold lessB; rcases this with h | h <;> simp [h]
              rw [hf]
              go_enter Try.func49, Try.ntmps49
              go_wp2_with fail
              go_ret
              exact ⟨rfl, rfl⟩
            · have d5 : decide (1000 < W) = false := by simpa using h5
              by_cases h6 : W2 < 1
              · have d6 : decide (W2 < 1) = true := by simpa using h6
                have hf : lessB L W i L2 W2 i2 = false := by
                  have : bearB L W = false ∨ bearB L2 W2 = false := by unfold bearB; simp; omega
                  unfold lessB; rcases this with h | h <;> simp [h]
                rw [hf]
                go_enter Try.func49, Try.ntmps49
                go_wp2_with fail
                go_ret
                exact ⟨rfl, rfl⟩
              · have d6 : decide (W2 < 1) = false := by simpa using h6
                by_cases h7 : 1000 < W2
                · have d7 : decide (1000 < W2) = true := by simpa using h7
                  have hf : lessB L W i L2 W2 i2 = false := by
                    have : bearB L W = false ∨ bearB L2 W2 = false := by unfold bearB; simp; omega
                    unfold lessB; rcases this with h | h <;> simp [h]
                  rw [hf]
                  go_enter Try.func49, Try.ntmps49
                  go_wp2_with fail
                  go_ret
                  exact ⟨rfl, rfl⟩
                · have d7 : decide (1000 < W2) = false := by simpa using h7
                  have b1 : bearB L W = true := by unfold bearB; simp; omega
                  have b2 : bearB L2 W2 = true := by unfold bearB; simp; omega
                  have r1 := mul_rng (L := L) (W := W2) (by omega) (by omega) (by omega) (by omega)
                  have r2 := mul_rng (L := L2) (W := W) (by omega) (by omega) (by omega) (by omega)
                  have hf : lessB L W i L2 W2 i2 = (decide (L * W2 < L2 * W) || (decide (L * W2 = L2 * W) && decide (i < i2))) := by unfold lessB; rw [b1, b2]; simp
                  rw [hf]
                  clear b1 b2 hf
                  obtain ⟨p, hp⟩ : ∃ p, L * W2 = p := ⟨_, rfl⟩
                  obtain ⟨q, hq⟩ : ∃ q, L2 * W = q := ⟨_, rfl⟩
                  rw [hp] at r1 ⊢
                  rw [hq] at r2 ⊢
                  have w3 : wrap64 (L * W2) = p := by rw [hp]; exact wrap64_id _ (by omega)
                  have w4 : wrap64 (L2 * W) = q := by rw [hq]; exact wrap64_id _ (by omega)
                  replace hp := Lib.hid hp
                  replace hq := Lib.hid hq
                  by_cases g1 : p < q
                  · have e1 : decide (p < q) = true := by simpa using g1
                    go_enter Try.func49, Try.ntmps49
                    go_wp2_with fail
                    go_ret
                    refine ⟨?_, rfl⟩
                    show Ending.returned (.bool _) = _
                    simp
                  · have e1 : decide (p < q) = false := by simpa using g1
                    by_cases g2 : p = q
                    · subst g2
                      have e2 : (p == p) = true := by simp
                      go_enter Try.func49, Try.ntmps49
                      go_wp2_with fail
                      go_ret
                      refine ⟨?_, rfl⟩
                      show Ending.returned (.bool _) = _
                      simp
                    · have e2 : (p == q) = false := by simpa using g2
                      go_enter Try.func49, Try.ntmps49
                      go_wp2_with fail
                      go_ret
                      refine ⟨?_, rfl⟩
                      show Ending.returned (.bool _) = _
                      simp

set_option maxHeartbeats 2000000 in
theorem less_any (L W i L2 W2 i2 : Int) (w : World) : Calls Try.prog 83 #[.int .i64 L, .int .i64 W, .int .i64 i, .int .i64 L2, .int .i64 W2, .int .i64 i2] w fun e w' => e = .returned (.bool (lessB L W i L2 W2 i2)) ∧ Below w.heap.size w w' := by
  have B1 := bears_any L W
  have B2 := bears_any L2 W2
  unfold lessB
  obtain ⟨o1, ho1⟩ : ∃ o, bearB L W = o := ⟨_, rfl⟩
  obtain ⟨o2, ho2⟩ : ∃ o, bearB L2 W2 = o := ⟨_, rfl⟩
  rw [ho1] at B1 ⊢
  rw [ho2] at B2 ⊢
  replace B1 := Lib.hid B1
  replace B2 := Lib.hid B2
  cases o1
  · go_enter Try.func83, Try.ntmps83
    go_wp2_with (go_at_call 107; with_reducible refine (B1.out _).mono ?_; rintro e w1 ⟨rfl, rfl⟩)
    go_ret
    exact ⟨rfl, Below.refl _ _⟩
  cases o2
  · go_enter Try.func83, Try.ntmps83
    go_wp2_with (go_at_call 107; first | (with_reducible refine (B1.out _).mono ?_; rintro e w1 ⟨rfl, rfl⟩) | (with_reducible refine (B2.out _).mono ?_; rintro e w1 ⟨rfl, rfl⟩))
    go_ret
    exact ⟨rfl, Below.refl _ _⟩
  obtain ⟨a1, a2, a3, a4⟩ := bearB_t ho1
  obtain ⟨c1, c2, c3, c4⟩ := bearB_t ho2
  clear ho1 ho2
  obtain ⟨L, rfl⟩ := Int.eq_ofNat_of_zero_le a1
  obtain ⟨L2, rfl⟩ := Int.eq_ofNat_of_zero_le c1
  obtain ⟨W, rfl⟩ := Int.eq_ofNat_of_zero_le (show 0 ≤ W by omega)
  obtain ⟨W2, rfl⟩ := Int.eq_ofNat_of_zero_le (show 0 ≤ W2 by omega)
  have C := fun w0 => cross_any L W2 L2 W w0 (by omega) (by omega) (by omega) (by omega)
  have C2 := C
  rw [show (L : Int) * (W2 : Int) = ((L * W2 : Nat) : Int) by simp, show (L2 : Int) * (W : Int) = ((L2 * W : Nat) : Int) by simp]
  clear C
  generalize L * W2 = p at *
  generalize L2 * W = q at *
  unfold cmpI at C2
  by_cases g1 : (p : Int) < (q : Int)
  · rw [if_pos g1] at C2
    replace C2 := Lib.hid C2
    replace g1 := Lib.hid g1
    go_enter Try.func83, Try.ntmps83
    go_wp2_with (first | (go_at_call 107; first | (with_reducible refine (B1.out _).mono ?_; rintro e w1 ⟨rfl, rfl⟩) | (with_reducible refine (B2.out _).mono ?_; rintro e w1 ⟨rfl, rfl⟩)) | (go_at_call 108; go_must (with_reducible refine (C2.out _).mono ?_; rintro e w2 ⟨rfl, hb2⟩)))
    go_ret
    refine ⟨?_, hb2⟩
    show Ending.returned (.bool _) = _
    simp [show p < q by have := g1.out; omega]
  · rw [if_neg g1] at C2
    by_cases g2 : (p : Int) = (q : Int)
    · obtain rfl : p = q := by omega
      rw [if_neg g1] at C2
      replace C2 := Lib.hid C2
      clear g1 g2
      go_enter Try.func83, Try.ntmps83
      go_wp2_with (first | (go_at_call 107; first | (with_reducible refine (B1.out _).mono ?_; rintro e w1 ⟨rfl, rfl⟩) | (with_reducible refine (B2.out _).mono ?_; rintro e w1 ⟨rfl, rfl⟩)) | (go_at_call 108; go_must (with_reducible refine (C2.out _).mono ?_; rintro e w2 ⟨rfl, hb2⟩)))
      go_ret
      refine ⟨?_, hb2⟩
      show Ending.returned (.bool _) = _
      simp
    · rw [if_pos (by omega)] at C2
      replace C2 := Lib.hid C2
      replace g1 := Lib.hid g1
      replace g2 := Lib.hid g2
      go_enter Try.func83, Try.ntmps83
      go_wp2_with (first | (go_at_call 107; first | (with_reducible refine (B1.out _).mono ?_; rintro e w1 ⟨rfl, rfl⟩) | (with_reducible refine (B2.out _).mono ?_; rintro e w1 ⟨rfl, rfl⟩)) | (go_at_call 108; go_must (with_reducible refine (C2.out _).mono ?_; rintro e w2 ⟨rfl, hb2⟩)))
      go_ret
      refine ⟨?_, hb2⟩
      show Ending.returned (.bool _) = _
      simp [show ¬ p < q by have := g1.out; omega, g2.out]
end Go.Proofs.Ytnmmjchhinfbpaa

namespace Go.Proofs.Ytnmmjchhinfbpaa
open Go Go.RowKit Go.Deep

structure Two (w : World) (base : Nat) (A : Option Addr) (c : Nat) (L : List Int) (B : Option Addr) (d : Nat) (K : List Int) : Prop where
  fst : OwnI w base A c L
  snd : OwnI w base B d K
  apart : ∀ b, InB A b → ¬ InB B b
section
variable {w w' : World} {base : Nat} {A A' B B' : Option Addr} {c d c' d' : Nat} {L K : List Int} {v : Int}
theorem Two.push1 (h : Two w base A c L B d K) (ho : OwnI w' base A' c' (L ++ [v])) (hp : Pushed w w' A A') : Two w' base A' c' (L ++ [v]) B d K :=
  ⟨ho, h.snd.chg hp.chg fun b hb hA => h.apart b hA hb, fun b hb hB => by
    rcases hp.new b hb with h1 | h1
    · exact h.apart b h1 hB
    · have := (h.snd.block hB).2; omega⟩
theorem Two.push2 (h : Two w base A c L B d K) (ho : OwnI w' base B' d' (K ++ [v])) (hp : Pushed w w' B B') : Two w' base A c L B' d' (K ++ [v]) :=
  ⟨h.fst.chg hp.chg fun b hb hB => h.apart b hb hB, ho, fun b hb hB => by
    rcases hp.new b hB with h1 | h1
    · exact h.apart b hb h1
    · have := (h.fst.block hb).2; omega⟩
end

def RLoadAt (w : World) (g : Nat) (M : LM) : Prop := ∃ A c B d, Blk w g 98 #[.slice A M.length c, .slice B M.length d] ∧ Reads w w.heap.size 1 A (M.map Prod.fst).length ((M.map Prod.fst).map (.int .i64)) ∧ Reads w w.heap.size 1 B (M.map Prod.snd).length ((M.map Prod.snd).map (.int .i64))
theorem RLoadAt.call {w w' : World} {g : Nat} {M : LM} (h : RLoadAt w g M) (hb : Below w.heap.size w w') : RLoadAt w' g M := by
  obtain ⟨A, c, B, d, h1, h2, h3⟩ := h
  exact ⟨A, c, B, d, h1.call hb, (h2.below hb).more hb.size, (h3.below hb).more hb.size⟩
theorem lmGet_hit {M : LM} {id : Int} {k : Nat} (h : ∀ j, j < k → (M.getD j (0, 0)).1 ≠ id) (hk : k < M.length) (he : (M.getD k (0, 0)).1 = id) : lmGet M id = (M.getD k (0, 0)).2 := by
  unfold lmGet
  have : M.find? (fun x => x.1 == id) = some (M.getD k (0, 0)) := by
    rw [List.find?_eq_some_iff_getElem]
    refine ⟨by simpa using he, k, hk, by simp [List.getD_eq_getElem?_getD, hk], fun j hj => ?_⟩
    have := h j hj
    simp [List.getD_eq_getElem?_getD, show j < M.length by omega] at this
    simpa using this
  rw [this]
theorem lmGet_miss {M : LM} {id : Int} (h : ∀ j, j < M.length → (M.getD j (0, 0)).1 ≠ id) : lmGet M id = 0 := by
  unfold lmGet
  have : M.find? (fun x => x.1 == id) = none := by
    rw [List.find?_eq_none]
    intro x hx
    obtain ⟨j, hj, rfl⟩ := List.getElem_of_mem hx
    have := h j hj
    simp [List.getD_eq_getElem?_getD, hj] at this
    simpa using this
  rw [this]
theorem getD_fst (M : LM) (k : Nat) : (M.map Prod.fst).getD k 0 = (M.getD k (0, 0)).1 := by
  simp [List.getD_eq_getElem?_getD, List.getElem?_map]; cases M[k]? <;> rfl
theorem getD_snd (M : LM) (k : Nat) : (M.map Prod.snd).getD k 0 = (M.getD k (0, 0)).2 := by
  simp [List.getD_eq_getElem?_getD, List.getElem?_map]; cases M[k]? <;> rfl

set_option maxHeartbeats 1000000 in
theorem refload_get (g : Nat) (M : LM) (id : Int) (w : World) (h : RLoadAt w g M) (hl : M.length ≤ 1000000) : Calls Try.prog 50 #[.pointer (some ⟨g, 0, none⟩), .int .i64 id] w fun e w' => e = .returned (.int .i64 (lmGet M id)) ∧ w = w' := by
  obtain ⟨A, c, B, d, h1, h2, h3⟩ := h
  have c0 := h1.cell 0
  have c1 := h1.cell 1
  simp at c0 c1
  go_enter Try.func50, Try.ntmps50
  go_wp2_with fail
  go_loop [5] (fun i => ∃ k : Nat, k ≤ M.length ∧ i = .int .i64 (k : Nat) ∧ ∀ j, j < k → (M.getD j (0, 0)).1 ≠ id) (fun i => M.length - (intOf i).toNat)
  case atStart => exact ⟨0, by omega, rfl, fun j hj => absurd hj (by omega)⟩
  case round =>
    obtain ⟨k, hk, rfl, hall⟩ := hrel
    replace hall := Lib.hid hall
    by_cases hlt : k < M.length
    · have hlti : (k : Int) < (M.length : Int) := by omega
      obtain ⟨ad, rfl, hbl, hc⟩ := h2.int_at (i := k) (by simpa using hlt)
      obtain ⟨ae, rfl, hbl2, hd⟩ := h3.int_at (i := k) (by simpa using hlt)
      rw [getD_fst] at hc
      rw [getD_snd] at hd
      obtain ⟨x, hx⟩ : ∃ x, M.getD k (0, 0) = x := ⟨_, rfl⟩
      rw [hx] at hc hd
      by_cases he : x.1 = id
      · have hfin := lmGet_hit hall.out hlt (by rw [hx, he])
        rw [hx] at hfin
        replace hfin := Lib.hid hfin
        have heb : (x.1 == id) = true := by simpa using he
        replace hx := Lib.hid hx
        replace he := Lib.hid he
        go_wp2_with fail
        go_ret
        exact ⟨by rw [hfin.out]; rfl, rfl⟩
      · have heb : (x.1 == id) = false := by simpa using he
        replace hx := Lib.hid hx
        replace he := Lib.hid he
        go_wp2_with fail
        go_round
        case rel => exact ⟨k + 1, by omega, by go_num, fun i hi => by
          rcases Nat.lt_succ_iff_lt_or_eq.1 hi with h | rfl
          · exact hall.out i h
          · rw [hx.out]; exact he.out⟩
        case measure => simp [intOf]; omega
    · obtain rfl : k = M.length := by omega
      have hlti : ¬ (M.length : Int) < (M.length : Int) := by omega
      have hfin := Lib.hid (lmGet_miss hall.out)
      go_wp2_with fail
      go_ret
      exact ⟨by rw [hfin.out]; rfl, rfl⟩

/-! set: what the loop has built. -/
def refStep (id n : Int) (st : LM × Bool) (x : Int × Int) : LM × Bool :=
  let st1 := if !st.2 && decide (id ≤ x.1) then (st.1 ++ [(id, n)], true) else st
  if x.1 = id then st1 else (st1.1 ++ [x], st1.2)
def refRun (M : LM) (id n : Int) : LM × Bool := M.foldl (refStep id n) ([], n == 0)
def refSet (M : LM) (id n : Int) : LM := if (refRun M id n).2 then (refRun M id n).1 else (refRun M id n).1 ++ [(id, n)]
theorem refRun_succ (M : LM) (id n : Int) (k : Nat) (hk : k < M.length) : refRun (M.take (k + 1)) id n = refStep id n (refRun (M.take k) id n) (M.getD k (0, 0)) := by
  unfold refRun
  rw [List.take_succ_eq_append_getElem hk, List.foldl_append]
  simp [List.getD_eq_getElem?_getD, hk]
theorem refStep_len (id n : Int) (st : LM × Bool) (x : Int × Int) : (refStep id n st x).1.length ≤ st.1.length + 2 := by
  unfold refStep
  dsimp only
  split <;> split <;> simp
theorem refRun_len (id n : Int) : ∀ (M : LM) (st : LM × Bool), (M.foldl (refStep id n) st).1.length ≤ st.1.length + 2 * M.length
  | [], st => by simp
  | x :: M, st => by
    have h1 := refRun_len id n M (refStep id n st x)
    have h2 := refStep_len id n st x
    simp only [List.foldl_cons, List.length_cons]
    omega
theorem refStep_in (id n : Int) (out : LM) (x : Int × Int) (h2 : x.1 = id) : refStep id n (out, false) x = (out ++ [(id, n)], true) := by simp [refStep, h2]
theorem refStep_both (id n : Int) (out : LM) (x : Int × Int) (h : id ≤ x.1) (h2 : x.1 ≠ id) : refStep id n (out, false) x = (out ++ [(id, n)] ++ [x], true) := by simp [refStep, h, h2]
theorem refStep_low (id n : Int) (out : LM) (x : Int × Int) (h : ¬ id ≤ x.1) : refStep id n (out, false) x = (out ++ [x], false) := by
  have : x.1 ≠ id := by omega
  simp [refStep, h, this]
theorem refStep_keep (id n : Int) (out : LM) (x : Int × Int) (h2 : x.1 ≠ id) : refStep id n (out, true) x = (out ++ [x], true) := by simp [refStep, h2]
theorem refStep_drop (id n : Int) (out : LM) (x : Int × Int) (h2 : x.1 = id) : refStep id n (out, true) x = (out, true) := by simp [refStep, h2]
theorem rl_facts {w w' : World} {g : Nat} {t : TypeId} {a b u v : Value} {X Y : Addr} (h1 : Blk w g t #[a, b]) (hb : Below w.heap.size w w') (hc : w.cell? X = some u) (hd : w.cell? Y = some v) :
    w'.cell? ⟨g, 0, none⟩ = some a ∧ w'.cell? ⟨g, 1, none⟩ = some b ∧ w'.cell? X = some u ∧ w'.cell? Y = some v :=
  ⟨by rw [(h1.call hb).cell 0]; rfl, by rw [(h1.call hb).cell 1]; rfl, (hb.cell (block_lt_of_cell hc)).trans hc, (hb.cell (block_lt_of_cell hd)).trans hd⟩
def pre2 (L : LM) : List Int := L.map Prod.fst
def post2 (L : LM) : List Int := L.map Prod.snd
theorem pre2_snoc (L : LM) (x : Int × Int) : pre2 (L ++ [x]) = pre2 L ++ [x.1] := by simp [pre2]
theorem post2_snoc (L : LM) (x : Int × Int) : post2 (L ++ [x]) = post2 L ++ [x.2] := by simp [post2]
theorem pre2_len (L : LM) : (pre2 L).length = L.length := by simp [pre2]
theorem post2_len (L : LM) : (post2 L).length = L.length := by simp [post2]

theorem chg_two {w w1 : World} {g : Nat} (h : Chg (· = g) w w1) (a b : Value) : Chg (· = g) w ((w1.setCell ⟨g, 0, none⟩ a).setCell ⟨g, 1, none⟩ b) :=
  (h.setCell (p := ⟨g, 0, none⟩) (fun _ => rfl) a).setCell (p := ⟨g, 1, none⟩) (fun _ => rfl) b
/-- Loads whose rows lie from a block on, and are the call's own. -/
def RLoadO (w : World) (base g : Nat) (M : LM) : Prop := ∃ P p Q q, Blk w g 98 #[.slice P M.length p, .slice Q M.length q] ∧ Two w base P p (pre2 M) Q q (post2 M)
theorem RLoadO.at_ {w : World} {base g : Nat} {M : LM} (h : RLoadO w base g M) : RLoadAt w g M := by
  obtain ⟨P, p, Q, q, h1, h2⟩ := h
  exact ⟨P, p, Q, q, h1, h2.fst.ints, h2.snd.ints⟩
theorem rload_end {w w1 : World} {g : Nat} {A B P Q : Option Addr} {n c d p q k : Nat} (out : LM) (hB : Blk w1 g 98 #[.slice A n c, .slice B n d]) (hT : Two w1 w.heap.size P p (pre2 out) Q q (post2 out)) (hg : g < w.heap.size) (hk : out.length = k) :
    RLoadO ((w1.setCell ⟨g, 0, none⟩ (.slice P k p)).setCell ⟨g, 1, none⟩ (.slice Q k q)) w.heap.size g out := by
  subst hk
  have hP : ¬ InB P g := fun h => by have := (hT.fst.block h).1; omega
  have hQ : ¬ InB Q g := fun h => by have := (hT.snd.block h).1; omega
  refine ⟨P, p, Q, q, ?_, (hT.fst.far (p := ⟨g, 0, none⟩) hP _).far (p := ⟨g, 1, none⟩) hP _, (hT.snd.far (p := ⟨g, 0, none⟩) hQ _).far (p := ⟨g, 1, none⟩) hQ _, hT.apart⟩
  simpa using (hB.set_ 0 (.slice P out.length p)).set_ 1 (.slice Q out.length q)

set_option maxRecDepth 100000 in
set_option maxHeartbeats 4000000 in
theorem refload_setO (g : Nat) (M : LM) (id n : Int) (w : World) (h : RLoadAt w g M) (hl : M.length ≤ 100000) : Calls Try.prog 80 #[.pointer (some ⟨g, 0, none⟩), .int .i64 id, .int .i64 n] w fun e w' => e = .returned (.tuple #[]) ∧ RLoadO w' w.heap.size g (refSet M id n) ∧ Chg (· = g) w w' := by
  obtain ⟨A, c, B, d, h1, h2, h3⟩ := h
  have c0 := h1.cell 0
  have c1 := h1.cell 1
  simp at c0 c1
  have hglt := h1.lt
  obtain ⟨zb, hzb⟩ : ∃ z, (n == 0) = z := ⟨_, rfl⟩
  have hR0 : refRun ([] : LM) id n = ([], zb) := by rw [← hzb]; rfl
  go_enter Try.func80, Try.ntmps80
  go_wp2_with fail
  clear c0 c1
  go_loopw [6, 7, 8, 9] (fun s t dn i wr => ∃ (k : Nat) (P : Option Addr) (p : Nat) (Q : Option Addr) (q : Nat) (out : LM) (b : Bool), k ≤ M.length ∧ i = .int .i64 (k : Nat) ∧ refRun (M.take k) id n = (out, b) ∧ s = .slice P out.length p ∧ t = .slice Q out.length q ∧ dn = .bool b ∧ Two wr w.heap.size P p (pre2 out) Q q (post2 out) ∧ Below w.heap.size w wr) (fun _ _ _ i _ => M.length - (intOf i).toNat)
  case atStart => exact ⟨0, none, 0, none, 0, [], zb, by omega, rfl, hR0, rfl, rfl, rfl, ⟨OwnA.nil _ _, OwnA.nil _ _, fun b hb => by obtain ⟨a, ha, _⟩ := hb; cases ha⟩, Below.refl _ _⟩
  case round =>
    obtain ⟨k, P, p, Q, q, out, bb, hk, rfl, hR, rfl, rfl, rfl, hT, hb⟩ := hrel
    have hB := h1.call hb
    have c0 := hB.cell 0
    have c1 := hB.cell 1
    simp at c0 c1
    have hz := hb.size
    have hol : out.length ≤ 200000 := by
      have := refRun_len id n (M.take k) ([], n == 0)
      unfold refRun at hR
      rw [hR] at this
      simp at this
      omega
    by_cases hlt : k < M.length
    · have hlti : (k : Int) < (M.length : Int) := by omega
      obtain ⟨ad, rfl, hbl, hc0⟩ := h2.int_at (i := k) (by simpa using hlt)
      obtain ⟨ae, rfl, hbl2, hd0⟩ := h3.int_at (i := k) (by simpa using hlt)
      have hstep := refRun_succ M id n k hlt
      rw [getD_fst] at hc0
      rw [getD_snd] at hd0
      rw [hR] at hstep
      obtain ⟨x, hx⟩ : ∃ x, M.getD k (0, 0) = x := ⟨_, rfl⟩
      rw [hx] at hc0 hd0 hstep
      obtain ⟨_, _, hc, hd⟩ := rl_facts h1 hb hc0 hd0
      clear hx hR hzb hR0 hB
      replace hc0 := Lib.hid hc0
      replace hd0 := Lib.hid hd0
      cases bb
      · by_cases g1 : id ≤ x.1
        · have e1 : decide (id ≤ x.1) = true := by simpa using g1
          by_cases g2 : x.1 = id
          · have e2 : (x.1 != id) = false := by simpa using g2
            rw [refStep_in id n out x g2] at hstep
            replace hstep := Lib.hid hstep
            replace g2 := Lib.hid g2
            go_wp2_with (first
              | (at_builtin; (refine wpList_push_int rfl (.tmp 34) (.tmp 36) rfl w.heap.size P p (pre2 out) (out.length) (by simp [pre2_len]) rfl hT.fst _ rfl rfl (by simp [pre2_len]; omega) (by omega) ?_; intro P1 p1 w1 ho1 hp1; have hT1 := hT.push1 ho1 hp1; have hb1 := hp1.below hb (by omega) (fun b hb => (hT.fst.block hb).1); have hz1 := hb1.size; clear c0 c1 hc hd; obtain ⟨c0, c1, hc, hd⟩ := rl_facts h1 hb1 hc0.out hd0.out))
              | (at_builtin; (refine wpList_push_int rfl (.tmp 38) (.tmp 40) rfl w.heap.size Q q (post2 out) (out.length) (by simp [post2_len]) rfl hT1.snd _ rfl rfl (by simp [post2_len]; omega) (by omega) ?_; intro P2 p2 w2 ho2 hp2; have hT2 := hT1.push2 ho2 hp2; have hb2 := hp2.below hb1 (by omega) (fun b hb => (hT1.snd.block hb).1); have hz2 := hb2.size; clear c0 c1 hc hd; obtain ⟨c0, c1, hc, hd⟩ := rl_facts h1 hb2 hc0.out hd0.out)))
            go_roundw
            case rel => exact ⟨k + 1, P1, p1, P2, p2, out ++ [(id, n)], true, by omega, by go_num, hstep.out, by simp, by simp, rfl, by (try simp only [pre2_snoc, post2_snoc]); exact hT2, hb2⟩
            case measure => simp [intOf]; omega
          · have e2 : (x.1 != id) = true := by simpa using g2
            rw [refStep_both id n out x g1 g2] at hstep
            replace hstep := Lib.hid hstep
            replace g2 := Lib.hid g2
            go_wp2_with (first
              | (at_builtin; (refine wpList_push_int rfl (.tmp 34) (.tmp 36) rfl w.heap.size P p (pre2 out) (out.length) (by simp [pre2_len]) rfl hT.fst _ rfl rfl (by simp [pre2_len]; omega) (by omega) ?_; intro P1 p1 w1 ho1 hp1; have hT1 := hT.push1 ho1 hp1; have hb1 := hp1.below hb (by omega) (fun b hb => (hT.fst.block hb).1); have hz1 := hb1.size; clear c0 c1 hc hd; obtain ⟨c0, c1, hc, hd⟩ := rl_facts h1 hb1 hc0.out hd0.out))
              | (at_builtin; (refine wpList_push_int rfl (.tmp 38) (.tmp 40) rfl w.heap.size Q q (post2 out) (out.length) (by simp [post2_len]) rfl hT1.snd _ rfl rfl (by simp [post2_len]; omega) (by omega) ?_; intro P2 p2 w2 ho2 hp2; have hT2 := hT1.push2 ho2 hp2; have hb2 := hp2.below hb1 (by omega) (fun b hb => (hT1.snd.block hb).1); have hz2 := hb2.size; clear c0 c1 hc hd; obtain ⟨c0, c1, hc, hd⟩ := rl_facts h1 hb2 hc0.out hd0.out))
              | (at_builtin; (refine wpList_push_int rfl (.tmp 51) (.tmp 59) rfl w.heap.size P1 p1 (pre2 out ++ [id]) (out.length + 1) (by simp [pre2_len]) rfl hT2.fst _ rfl rfl (by simp [pre2_len]; omega) (by omega) ?_; intro P3 p3 w3 ho3 hp3; have hT3 := hT2.push1 ho3 hp3; have hb3 := hp3.below hb2 (by omega) (fun b hb => (hT2.fst.block hb).1); have hz3 := hb3.size; clear c0 c1 hc hd; obtain ⟨c0, c1, hc, hd⟩ := rl_facts h1 hb3 hc0.out hd0.out))
              | (at_builtin; (refine wpList_push_int rfl (.tmp 61) (.tmp 69) rfl w.heap.size P2 p2 (post2 out ++ [n]) (out.length + 1) (by simp [post2_len]) rfl hT3.snd _ rfl rfl (by simp [post2_len]; omega) (by omega) ?_; intro P4 p4 w4 ho4 hp4; have hT4 := hT3.push2 ho4 hp4; have hb4 := hp4.below hb3 (by omega) (fun b hb => (hT3.snd.block hb).1); have hz4 := hb4.size; clear c0 c1 hc hd; obtain ⟨c0, c1, hc, hd⟩ := rl_facts h1 hb4 hc0.out hd0.out)))
            go_roundw
            case rel => exact ⟨k + 1, P3, p3, P4, p4, out ++ [(id, n)] ++ [x], true, by omega, by go_num, hstep.out, by simp, by simp, rfl, by (try simp only [pre2_snoc, post2_snoc]); exact hT4, hb4⟩
            case measure => simp [intOf]; omega
        · have e1 : decide (id ≤ x.1) = false := by simpa using g1
          have e2 : (x.1 != id) = true := by rw [bne_iff_ne]; omega
          rw [refStep_low id n out x g1] at hstep
          replace hstep := Lib.hid hstep
          go_wp2_with (first
            | (at_builtin; (refine wpList_push_int rfl (.tmp 51) (.tmp 59) rfl w.heap.size P p (pre2 out) (out.length) (by simp [pre2_len]) rfl hT.fst _ rfl rfl (by simp [pre2_len]; omega) (by omega) ?_; intro P3 p3 w3 ho3 hp3; have hT3 := hT.push1 ho3 hp3; have hb3 := hp3.below hb (by omega) (fun b hb => (hT.fst.block hb).1); have hz3 := hb3.size; clear c0 c1 hc hd; obtain ⟨c0, c1, hc, hd⟩ := rl_facts h1 hb3 hc0.out hd0.out))
            | (at_builtin; (refine wpList_push_int rfl (.tmp 61) (.tmp 69) rfl w.heap.size Q q (post2 out) (out.length) (by simp [post2_len]) rfl hT3.snd _ rfl rfl (by simp [post2_len]; omega) (by omega) ?_; intro P4 p4 w4 ho4 hp4; have hT4 := hT3.push2 ho4 hp4; have hb4 := hp4.below hb3 (by omega) (fun b hb => (hT3.snd.block hb).1); have hz4 := hb4.size; clear c0 c1 hc hd; obtain ⟨c0, c1, hc, hd⟩ := rl_facts h1 hb4 hc0.out hd0.out)))
          go_roundw
          case rel => exact ⟨k + 1, P3, p3, P4, p4, out ++ [x], false, by omega, by go_num, hstep.out, by simp, by simp, rfl, by (try simp only [pre2_snoc, post2_snoc]); exact hT4, hb4⟩
          case measure => simp [intOf]; omega
      · by_cases g2 : x.1 = id
        · have e2 : (x.1 != id) = false := by simpa using g2
          rw [refStep_drop id n out x g2] at hstep
          replace hstep := Lib.hid hstep
          replace g2 := Lib.hid g2
          go_wp2_with fail
          go_roundw
          case rel => exact ⟨k + 1, P, p, Q, q, out, true, by omega, by go_num, hstep.out, by simp, by simp, rfl, by (try simp only [pre2_snoc, post2_snoc]); exact hT, hb⟩
          case measure => simp [intOf]; omega
        · have e2 : (x.1 != id) = true := by simpa using g2
          rw [refStep_keep id n out x g2] at hstep
          replace hstep := Lib.hid hstep
          replace g2 := Lib.hid g2
          go_wp2_with (first
            | (at_builtin; (refine wpList_push_int rfl (.tmp 51) (.tmp 59) rfl w.heap.size P p (pre2 out) (out.length) (by simp [pre2_len]) rfl hT.fst _ rfl rfl (by simp [pre2_len]; omega) (by omega) ?_; intro P3 p3 w3 ho3 hp3; have hT3 := hT.push1 ho3 hp3; have hb3 := hp3.below hb (by omega) (fun b hb => (hT.fst.block hb).1); have hz3 := hb3.size; clear c0 c1 hc hd; obtain ⟨c0, c1, hc, hd⟩ := rl_facts h1 hb3 hc0.out hd0.out))
            | (at_builtin; (refine wpList_push_int rfl (.tmp 61) (.tmp 69) rfl w.heap.size Q q (post2 out) (out.length) (by simp [post2_len]) rfl hT3.snd _ rfl rfl (by simp [post2_len]; omega) (by omega) ?_; intro P4 p4 w4 ho4 hp4; have hT4 := hT3.push2 ho4 hp4; have hb4 := hp4.below hb3 (by omega) (fun b hb => (hT3.snd.block hb).1); have hz4 := hb4.size; clear c0 c1 hc hd; obtain ⟨c0, c1, hc, hd⟩ := rl_facts h1 hb4 hc0.out hd0.out)))
          go_roundw
          case rel => exact ⟨k + 1, P3, p3, P4, p4, out ++ [x], true, by omega, by go_num, hstep.out, by simp, by simp, rfl, by (try simp only [pre2_snoc, post2_snoc]); exact hT4, hb4⟩
          case measure => simp [intOf]; omega
    · obtain rfl : k = M.length := by omega
      have hlti : ¬ (M.length : Int) < (M.length : Int) := by omega
      rw [List.take_length] at hR
      have q0 := hB.frozen 0
      have q1 := hB.frozen 1
      cases bb
      · have hfin : refSet M id n = out ++ [(id, n)] := by unfold refSet; rw [hR]; rfl
        replace hfin := Lib.hid hfin
        clear hR hzb hR0 q0 q1
        go_wp2_with (first
          | (at_builtin; (refine wpList_push_int rfl (.tmp 73) (.tmp 75) rfl w.heap.size P p (pre2 out) (out.length) (by simp [pre2_len]) rfl hT.fst _ rfl rfl (by simp [pre2_len]; omega) (by omega) ?_; intro P1 p1 w1 ho1 hp1; have hT1 := hT.push1 ho1 hp1; have hb1 := hp1.below hb (by omega) (fun b hb => (hT.fst.block hb).1); have hz1 := hb1.size; clear c0 c1; have c0 := (h1.call hb1).cell 0; have c1 := (h1.call hb1).cell 1; simp at c0 c1; skip))
          | (at_builtin; (refine wpList_push_int rfl (.tmp 77) (.tmp 79) rfl w.heap.size Q q (post2 out) (out.length) (by simp [post2_len]) rfl hT1.snd _ rfl rfl (by simp [post2_len]; omega) (by omega) ?_; intro P2 p2 w2 ho2 hp2; have hT2 := hT1.push2 ho2 hp2; have hb2 := hp2.below hb1 (by omega) (fun b hb => (hT1.snd.block hb).1); have hz2 := hb2.size; clear c0 c1; have c0 := (h1.call hb2).cell 0; have c1 := (h1.call hb2).cell 1; simp at c0 c1; have q0 := (h1.call hb2).frozen 0; have q1 := (h1.call hb2).frozen 1)))
        go_end0
        exact ⟨rfl, by rw [hfin.out]; exact rload_end (out ++ [(id, n)]) (h1.call hb2) (by rw [pre2_snoc, post2_snoc]; exact hT2) hglt (by simp), chg_two (Chg.of_below hb2) _ _⟩
      · have hfin : refSet M id n = out := by unfold refSet; rw [hR]; rfl
        replace hfin := Lib.hid hfin
        clear hR hzb hR0
        go_wp2_with fail
        go_end0
        exact ⟨rfl, by rw [hfin.out]; exact rload_end out hB hT hglt rfl, chg_two (Chg.of_below hb) _ _⟩
theorem refload_set (g : Nat) (M : LM) (id n : Int) (w : World) (h : RLoadAt w g M) (hl : M.length ≤ 100000) : Calls Try.prog 80 #[.pointer (some ⟨g, 0, none⟩), .int .i64 id, .int .i64 n] w fun e w' => e = .returned (.tuple #[]) ∧ RLoadAt w' g (refSet M id n) ∧ Chg (· = g) w w' :=
  (refload_setO g M id n w h hl).mono fun _ _ h => ⟨h.1, h.2.1.at_, h.2.2⟩
end Go.Proofs.Ytnmmjchhinfbpaa

namespace Go.Proofs.Ytnmmjchhinfbpaa
open Go Go.RowKit Go.Deep

def lmSorted (M : LM) : Prop := M.Pairwise fun x y => x.1 < y.1
theorem refRun_done (id n : Int) : ∀ (M out : LM), M.foldl (refStep id n) (out, true) = (out ++ lmDel M id, true)
  | [], out => by simp [lmDel]
  | x :: M, out => by
    rw [List.foldl_cons]
    by_cases h : x.1 = id
    · rw [refStep_drop id n out x h, refRun_done id n M out]
      simp [lmDel, h]
    · rw [refStep_keep id n out x h, refRun_done id n M]
      simp [lmDel, h]
theorem lmIns_low (id n : Int) : ∀ L : LM, (∀ y ∈ L, id < y.1) → lmIns (id, n) L = (id, n) :: L
  | [], _ => rfl
  | y :: L, h => by unfold lmIns; rw [if_pos (h y (by simp))]
theorem refRun_open (id n : Int) : ∀ (M out : LM), lmSorted M → (if (M.foldl (refStep id n) (out, false)).2 then (M.foldl (refStep id n) (out, false)).1 else (M.foldl (refStep id n) (out, false)).1 ++ [(id, n)]) = out ++ lmIns (id, n) (lmDel M id)
  | [], out, _ => by simp [lmDel, lmIns]
  | x :: M, out, hs => by
    obtain ⟨h1, h2⟩ := List.pairwise_cons.1 hs
    rw [List.foldl_cons]
    by_cases hlt : id ≤ x.1
    · by_cases he : x.1 = id
      · rw [refStep_in id n out x he, refRun_done]
        have : lmIns (id, n) (lmDel M id) = (id, n) :: lmDel M id := lmIns_low id n _ fun y hy => by
          have := h1 y (List.mem_filter.1 hy).1; omega
        simp only [if_true]
        rw [show lmDel (x :: M) id = lmDel M id by simp [lmDel, he], this]
        simp
      · rw [refStep_both id n out x hlt he, refRun_done]
        simp only [if_true]
        rw [show lmDel (x :: M) id = x :: lmDel M id by simp [lmDel, he]]
        unfold lmIns
        rw [if_pos (show id < x.1 by omega)]
        simp
    · rw [refStep_low id n out x hlt, refRun_open id n M _ h2]
      rw [show lmDel (x :: M) id = x :: lmDel M id by
        have : ¬ x.1 = id := by omega
        simp [lmDel, this]]
      rw [show lmIns (id, n) (x :: lmDel M id) = x :: lmIns (id, n) (lmDel M id) by
        show (if id < x.1 then _ else _) = _
        rw [if_neg (by omega)]]
      simp
theorem refSet_eq (M : LM) (id n : Int) (h : lmSorted M) : refSet M id n = if n = 0 then lmDel M id else lmPut M id n := by
  unfold refSet refRun
  by_cases hn : n = 0
  · subst hn
    rw [show ((0 : Int) == 0) = true from rfl, refRun_done]
    simp
  · rw [show (n == 0) = false by simpa using hn, refRun_open id n M [] h, if_neg hn]
    simp [lmPut]
theorem lmDel_sorted {M : LM} (h : lmSorted M) (id : Int) : lmSorted (lmDel M id) := List.Pairwise.filter _ h
theorem lmIns_sorted {id n : Int} : ∀ {L : LM}, lmSorted L → (∀ y ∈ L, y.1 ≠ id) → lmSorted (lmIns (id, n) L)
  | [], _, _ => by simp [lmSorted, lmIns]
  | y :: L, hs, hne => by
    obtain ⟨h1, h2⟩ := List.pairwise_cons.1 hs
    unfold lmIns
    by_cases h : id < y.1
    · rw [if_pos h]
      exact List.pairwise_cons.2 ⟨fun z hz => by
        rcases List.mem_cons.1 hz with rfl | hz
        · exact h
        · have := h1 z hz; show id < z.1; omega, hs⟩
    · rw [if_neg h]
      have hy := hne y (by simp)
      refine List.pairwise_cons.2 ⟨fun z hz => ?_, lmIns_sorted h2 fun z hz => hne z (by simp [hz])⟩
      rcases lmIns_mem hz with rfl | hz
      · show y.1 < id; omega
      · exact h1 z hz
theorem lmPut_sorted {M : LM} (h : lmSorted M) (id v : Int) : lmSorted (lmPut M id v) := lmIns_sorted (lmDel_sorted h id) fun y hy => by simpa using (List.mem_filter.1 hy).2
theorem lmAdd_sorted {M : LM} (h : lmSorted M) (id n : Int) : lmSorted (lmAdd M id n) := by
  unfold lmAdd
  split
  · exact h
  · split
    · exact lmDel_sorted h id
    · exact lmPut_sorted h id _
theorem lmAdd_ref (M : LM) (id n : Int) (h : lmSorted M) (hn : ¬ (n < -1099511627776 ∨ 1099511627776 < n)) : refSet M id (max 0 (min 1099511627776 (lmGet M id + n))) = lmAdd M id n := by
  unfold lmAdd
  rw [refSet_eq M id _ h, if_neg hn]
  by_cases hz : min 1099511627776 (lmGet M id + n) ≤ 0
  · rw [if_pos (by omega), if_pos hz]
  · rw [if_neg (by omega), if_neg hz, show max 0 (min 1099511627776 (lmGet M id + n)) = min 1099511627776 (lmGet M id + n) by omega]

set_option maxHeartbeats 1000000 in
theorem refload_add (g : Nat) (M : LM) (id n : Int) (w : World) (h : RLoadAt w g M) (hs : lmSorted M) (hp : lmPos M) (hl : M.length ≤ 100000) :
    Calls Try.prog 46 #[.pointer (some ⟨g, 0, none⟩), .int .i64 id, .int .i64 n] w fun e w' => e = .returned (.tuple #[]) ∧ RLoadAt w' g (lmAdd M id n) ∧ Chg (· = g) w w' := by
  by_cases hn : n < -1099511627776
  · have e : lmAdd M id n = M := by unfold lmAdd; rw [if_pos (.inl hn)]
    rw [e]
    have d1 : decide (-1099511627776 ≤ n) = false := by simp; omega
    go_enter Try.func46, Try.ntmps46
    go_wp2_with fail
    go_end0
    exact ⟨rfl, h, Chg.refl _ _⟩
  by_cases hn2 : 1099511627776 < n
  · have e : lmAdd M id n = M := by unfold lmAdd; rw [if_pos (.inr hn2)]
    rw [e]
    have d1 : decide (-1099511627776 ≤ n) = true := by simp; omega
    have d2 : decide (n ≤ 1099511627776) = false := by simp; omega
    go_enter Try.func46, Try.ntmps46
    go_wp2_with fail
    go_end0
    exact ⟨rfl, h, Chg.refl _ _⟩
  have d1 : decide (-1099511627776 ≤ n) = true := by simp; omega
  have d2 : decide (n ≤ 1099511627776) = true := by simp; omega
  rw [← lmAdd_ref M id n hs (by omega)]
  obtain ⟨r1, r2⟩ := lmGet_rng hp id
  have G := refload_get g M id w h (by omega)
  generalize lmGet M id = v at *
  obtain ⟨x, hx⟩ : ∃ x, max 0 (min 1099511627776 (v + n)) = x := ⟨_, rfl⟩
  rw [hx]
  have S := refload_set g M id x w h hl
  replace G := Lib.hid G
  replace S := Lib.hid S
  have b1 : -9223372036854775808 ≤ v + n := by omega
  have b2 : v + n ≤ 9223372036854775807 := by omega
  replace hx := Lib.hid hx
  clear hn hn2 h
  go_enter Try.func46, Try.ntmps46
  go_wp2_with (go_at_call 50; with_reducible refine G.out.mono ?_; rintro e w1 ⟨rfl, rfl⟩)
  rw [hx.out]
  refine S.out.mono ?_
  rintro e w1 ⟨rfl, h1, h2⟩
  go_wp2_with fail
  go_end0
  exact ⟨rfl, h1, h2⟩
set_option maxHeartbeats 1000000 in
theorem refload_addO (g : Nat) (M : LM) (id n : Int) (w : World) (h : RLoadAt w g M) (hs : lmSorted M) (hp : lmPos M) (hl : M.length ≤ 100000) (hn : -1099511627776 ≤ n ∧ n ≤ 1099511627776) :
    Calls Try.prog 46 #[.pointer (some ⟨g, 0, none⟩), .int .i64 id, .int .i64 n] w fun e w' => e = .returned (.tuple #[]) ∧ RLoadO w' w.heap.size g (lmAdd M id n) ∧ Chg (· = g) w w' := by
  have d1 : decide (-1099511627776 ≤ n) = true := by simp; omega
  have d2 : decide (n ≤ 1099511627776) = true := by simp; omega
  rw [← lmAdd_ref M id n hs (by omega)]
  obtain ⟨r1, r2⟩ := lmGet_rng hp id
  have G := refload_get g M id w h (by omega)
  generalize lmGet M id = v at *
  obtain ⟨x, hx⟩ : ∃ x, max 0 (min 1099511627776 (v + n)) = x := ⟨_, rfl⟩
  rw [hx]
  have S := refload_setO g M id x w h hl
  replace G := Lib.hid G
  replace S := Lib.hid S
  have b1 : -9223372036854775808 ≤ v + n := by omega
  have b2 : v + n ≤ 9223372036854775807 := by omega
  replace hx := Lib.hid hx
  clear hn h
  go_enter Try.func46, Try.ntmps46
  go_wp2_with (go_at_call 50; with_reducible refine G.out.mono ?_; rintro e w1 ⟨rfl, rfl⟩)
  rw [hx.out]
  refine S.out.mono ?_
  rintro e w1 ⟨rfl, h1, h2⟩
  go_wp2_with fail
  go_end0
  exact ⟨rfl, h1, h2⟩
end Go.Proofs.Ytnmmjchhinfbpaa
