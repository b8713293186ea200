/- ring: the document's At, walked. -/
import Derived.Test.YtnmmjchhinfbpaaRingK
namespace Go.Proofs.Ytnmmjchhinfbpaa
open Go Go.RowKit Go.Deep

section
variable {P : List Pt} {n : Int} {k : Nat} {be : Int} {f : Nat}
theorem AtSt.low (h : AtSt P n k be f) (hk : k < P.length) (h0 : k = 0 → f = 0) (hn : ¬ n ≤ (P.getD k (0, 0)).2) : AtSt P n (k + 1) be (if ptLt (P.getD k (0, 0)) (P.getD f (0, 0)) then k else f) := by
  refine ⟨by have := h.fl; split <;> omega, fun _ => h.first hk h0, ?_⟩
  rw [take_snoc P k hk, upP_snoc, if_neg hn]
  exact h.bm
theorem AtSt.new (h : AtSt P n k be f) (hk : k < P.length) (h0 : k = 0 → f = 0) (hn : n ≤ (P.getD k (0, 0)).2) (hb : be = -1 ∨ ∃ b : Nat, be = (b : Int) ∧ ptLt (P.getD k (0, 0)) (P.getD b (0, 0)) = true) : AtSt P n (k + 1) (k : Int) (if ptLt (P.getD k (0, 0)) (P.getD f (0, 0)) then k else f) := by
  refine ⟨by have := h.fl; split <;> omega, fun _ => h.first hk h0, .inr ⟨k, rfl, hk, ?_, ?_⟩⟩
  · rw [take_snoc P k hk, upP_snoc, if_pos hn]
    simp
  · rw [take_snoc P k hk, upP_snoc, if_pos hn, minP_snoc]
    rcases h.bm with ⟨h1, h2⟩ | ⟨b', h1, h2, h3, h4⟩
    · rw [if_pos h2]
    · rw [if_neg h3, ← h4]
      rcases hb with h5 | ⟨b, h5, h6⟩
      · omega
      · obtain rfl : b = b' := by omega
        rw [if_pos h6]
theorem AtSt.keep (h : AtSt P n k be f) (hk : k < P.length) (h0 : k = 0 → f = 0) (hn : n ≤ (P.getD k (0, 0)).2) {b : Nat} (hb : be = (b : Int)) (ht : ptLt (P.getD k (0, 0)) (P.getD b (0, 0)) = false) : AtSt P n (k + 1) be (if ptLt (P.getD k (0, 0)) (P.getD f (0, 0)) then k else f) := by
  refine ⟨by have := h.fl; split <;> omega, fun _ => h.first hk h0, .inr ?_⟩
  rcases h.bm with ⟨h1, -⟩ | ⟨b', h1, h2, h3, h4⟩
  · omega
  · obtain rfl : b = b' := by omega
    refine ⟨b, h1, h2, ?_, ?_⟩
    · rw [take_snoc P k hk, upP_snoc, if_pos hn]
      simp
    · rw [take_snoc P k hk, upP_snoc, if_pos hn, minP_snoc, if_neg h3, ← h4, ht]
      rfl
end
set_option maxRecDepth 100000 in
set_option maxHeartbeats 8000000 in
theorem refat51 (P : List Pt) (A : Option Addr) (c : Nat) (n : Int) (w : World) (hr : Reads w w.heap.size 2 A P.length (P.flatMap qcell)) (h0 : 0 < P.length) (hl : P.length ≤ 65536) :
    Calls Try.prog 14 #[.slice A P.length c, .int .u64 n] w fun e w' => e = .returned (.int .i64 (ownP P n).1) ∧ Below w.heap.size w w' := by
  obtain ⟨r, hrr⟩ : ∃ r, ownP P n = r := ⟨_, rfl⟩
  rw [hrr]
  have K := fun x y W => refless51 x y W
  replace K := Lib.hid K
  replace hrr := Lib.hid hrr
  replace hr := Lib.hid hr
  go_enter Try.func14, Try.ntmps14
  go_wp2_with fail
  go_loopw [5, 6, 7] (fun bv fv ix wr => ∃ (k f : Nat) (be : Int), k ≤ P.length ∧ ix = .int .i64 (k : Nat) ∧ fv = .int .i64 (f : Nat) ∧ bv = .int .i64 be ∧ AtSt P n k be f ∧ (k = 0 → f = 0) ∧ Below w.heap.size w wr) (fun _ _ ix _ => P.length - (intOf ix).toNat)
  case atStart => exact ⟨0, 0, -1, by omega, rfl, rfl, rfl, ⟨h0, by omega, .inl ⟨rfl, rfl⟩⟩, fun _ => rfl, Below.refl _ _⟩
  case round =>
    obtain ⟨k, f, be, hk, rfl, rfl, rfl, hA, hf0, hb⟩ := hrel
    by_cases hlt : k < P.length
    · have hlti : (k : Int) < (P.length : Int) := by omega
      have hfl := hA.fl
      have hfli : (f : Int) < (P.length : Int) := by omega
      obtain ⟨ad, rfl, hbl, c0, c1⟩ := qt_at (hr.out.below hb) hlt
      obtain ⟨ad', e', -, d0, d1⟩ := qt_at (hr.out.below hb) hfl
      obtain rfl : ad = ad' := by simpa using e'
      have KF := K.out (P.getD k (0, 0)) (P.getD f (0, 0))
      have L1 := fun hn => hA.low hlt hf0 hn
      have L2 := fun hn hb => hA.new hlt hf0 hn hb
      have L3 := fun hn (b : Nat) hb ht => hA.keep hlt hf0 hn (b := b) hb ht
      have hf1 : ∀ t : Bool, ptLt (P.getD k (0, 0)) (P.getD f (0, 0)) = t → (k + 1 = 0 → (if t then k else f) = 0) := by omega
      obtain ⟨t, ht⟩ : ∃ t, ptLt (P.getD k (0, 0)) (P.getD f (0, 0)) = t := ⟨_, rfl⟩
      rw [ht] at KF L1 L2 L3
      obtain ⟨xi, xa, hx⟩ : ∃ xi xa, P.getD k (0, 0) = (xi, xa) := ⟨_, _, rfl⟩
      obtain ⟨yi, ya, hy⟩ : ∃ yi ya, P.getD f (0, 0) = (yi, ya) := ⟨_, _, rfl⟩
      have L4 : ∀ b : Nat, b < P.length → ∃ zi za t2, wr.cell? (ad.add (b * 2)) = some (.int .u64 za) ∧ wr.cell? ⟨(ad.add (b * 2)).block, (ad.add (b * 2)).off + 1, none⟩ = some (.int .i64 zi) ∧ ptLt (P.getD k (0, 0)) (P.getD b (0, 0)) = t2 ∧
          ∀ W, Calls Try.prog 42 #[.agg #[.int .u64 xa, .int .i64 xi], .agg #[.int .u64 za, .int .i64 zi]] W fun e w' => e = .returned (.bool t2) ∧ Below W.heap.size W w' := by
        intro b hbb
        obtain ⟨ad2, e2, -, z0, z1⟩ := qt_at (hr.out.below hb) hbb
        obtain rfl : ad = ad2 := by simpa using e2
        have := K.out (P.getD k (0, 0)) (P.getD b (0, 0))
        rw [hx] at this ⊢
        exact ⟨_, _, _, z0, z1, rfl, this⟩
      rw [hx] at KF L1 L2 L3 c0 c1
      rw [hy] at KF d0 d1
      dsimp only at KF L1 L2 L3 c0 c1 d0 d1
      have hbm := hA.bm
      replace L1 := Lib.hid L1
      replace L2 := Lib.hid L2
      replace L3 := Lib.hid L3
      replace L4 := Lib.hid L4
      replace KF := Lib.hid KF
      replace hA := Lib.hid hA
      replace hbm := Lib.hid hbm
      replace hf1 := Lib.hid (hf1 t ht)
      replace ht := Lib.hid ht
      replace hx := Lib.hid hx
      replace hy := Lib.hid hy
      replace hf0 := Lib.hid hf0
      clear e'
      go_wp2_with fail
      go_region_held3 (fun W => Below wr.heap.size wr W ∧ W.cell? (ad.add (k * 2)) = some (.int .u64 xa) ∧ W.cell? ⟨(ad.add (k * 2)).block, (ad.add (k * 2)).off + 1, none⟩ = some (.int .i64 xi) ∧ W.cell? (ad.add (f * 2)) = some (.int .u64 ya) ∧ W.cell? ⟨(ad.add (f * 2)).block, (ad.add (f * 2)).off + 1, none⟩ = some (.int .i64 yi)) ((first | assumption | ((refine ⟨?_, ?_⟩; (first | assumption | exact (Below.refl _ _).drew | exact Below.refl _ _); go_keep)))) (first
        | (go_at_call 42; (with_reducible refine (KF.out _).mono ?_); rintro e w2 ⟨rfl, hb2⟩; have hS := hold4 (by assumption) hb2))
      all_goals
        have hb3 := hS.1
        have hb4 := below_chain hb3 hb
        obtain ⟨q0, q1, q2, -, -⟩ := hS
        clear c0 c1 d0 d1 KF hb hb2
        cases t
        all_goals
          have M1 := L1.out
          have M2 := L2.out
          have M3 := L3.out
          simp only [if_true, Bool.false_eq_true, if_false] at M1 M2 M3
          replace M1 := Lib.hid M1
          replace M2 := Lib.hid M2
          replace M3 := Lib.hid M3
          clear L1 L2 L3
          by_cases hn : n ≤ xa
          · have dn : decide (n ≤ xa) = true := by simpa using hn
            rcases hbm.out with ⟨rfl, -⟩ | ⟨b, rfl, hbl2, -, -⟩
            · go_wp2_with fail
              go_quiet (fail)
              go_wp2_with fail
              go_roundw
              case rel => exact ⟨k + 1, _, (k : Int), by omega, by go_num, rfl, rfl, M2.out hn (by first | exact .inl rfl | exact .inl trivial | trivial), by omega, below_drewN hb4 _⟩
              case measure => simp [intOf]; omega
            · obtain ⟨zi, za, t2, z0, z1, ht2, KB⟩ := L4.out b hbl2
              have hbi : (b : Int) < (P.length : Int) := by omega
              have hb0 : decide ((b : Int) < 0) = false := by simp
              have z2 := (q0.cell (block_lt_of_cell z0)).trans z0
              have z3 := (q0.cell (block_lt_of_cell z1)).trans z1
              clear z0 z1
              replace KB := Lib.hid KB
              replace ht2 := Lib.hid ht2
              go_wp2_with fail
              go_region_held3 (fun W => Below w2.heap.size w2 W ∧ W.cell? (ad.add (k * 2)) = some (.int .u64 xa) ∧ W.cell? ⟨(ad.add (k * 2)).block, (ad.add (k * 2)).off + 1, none⟩ = some (.int .i64 xi) ∧ W.cell? (ad.add (b * 2)) = some (.int .u64 za) ∧ W.cell? ⟨(ad.add (b * 2)).block, (ad.add (b * 2)).off + 1, none⟩ = some (.int .i64 zi)) ((first | assumption | ((refine ⟨?_, ?_⟩; (first | assumption | exact (Below.refl _ _).drew | exact Below.refl _ _); go_keep)))) (first
                | (go_at_call 42; (with_reducible refine (KB.out _).mono ?_); rintro e w5 ⟨rfl, hb5⟩; have hS := hold4 (by assumption) hb5))
              all_goals
                have hb6 := below_chain hS.1 hb4
                clear hS z2 z3
                cases t2
                · go_wp2_with fail
                  go_roundw
                  case rel => exact ⟨k + 1, _, (b : Int), by omega, by go_num, rfl, rfl, M3.out hn b rfl (by rw [← hx.out]; exact ht2.out), by omega, hb6⟩
                  case measure => simp [intOf]; omega
                · go_wp2_with fail
                  go_roundw
                  case rel => exact ⟨k + 1, _, (k : Int), by omega, by go_num, rfl, rfl, M2.out hn (.inr ⟨b, rfl, by rw [← hx.out]; exact ht2.out⟩), by omega, hb6⟩
                  case measure => simp [intOf]; omega
          · have dn : decide (n ≤ xa) = false := by simpa using hn
            go_wp2_with fail
            go_quiet (fail)
            go_wp2_with fail
            go_roundw
            case rel => exact ⟨k + 1, _, be, by omega, by go_num, rfl, rfl, M1.out hn, by omega, below_drewN hb4 _⟩
            case measure => simp [intOf]; omega
    · obtain rfl : k = P.length := by omega
      have hlti : ¬ (P.length : Int) < (P.length : Int) := by omega
      obtain ⟨D1, D2⟩ := hA.done h0
      have hfl := hA.fl
      rw [hrr.out] at D1 D2
      rcases hA.bm with ⟨rfl, -⟩ | ⟨b, rfl, -⟩
      · have e := D1 rfl
        have hfi : (f : Int) < (P.length : Int) := by omega
        obtain ⟨ad, rfl, hbl, c0, c1⟩ := qt_at (hr.out.below hb) hfl
        rw [e] at c1
        replace e := Lib.hid e
        clear c0 D1 D2 hA
        go_wp2_with fail
        go_ret
        exact ⟨rfl, hb⟩
      · obtain ⟨hbl2, e⟩ := D2 b rfl
        have hbi : (b : Int) < (P.length : Int) := by omega
        have hb0 : decide ((b : Int) < 0) = false := by simp
        obtain ⟨ad, rfl, hbl, c0, c1⟩ := qt_at (hr.out.below hb) hbl2
        rw [e] at c1
        replace e := Lib.hid e
        clear c0 D1 D2 hA
        go_wp2_with fail
        go_ret
        exact ⟨rfl, hb⟩
end Go.Proofs.Ytnmmjchhinfbpaa
