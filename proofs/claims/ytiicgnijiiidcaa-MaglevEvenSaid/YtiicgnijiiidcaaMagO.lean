/- maglev: the law MaglevEven, called. -/
import Derived.Test.YtiicgnijiiidcaaMagN
namespace Go.Proofs.Ytiicgnijiiidcaa
open Go Go.RowKit Go.Deep

set_option maxRecDepth 100000 in
set_option maxHeartbeats 8000000 in
theorem maglevEven_false (l : List Bk) (A : Option Addr) (c : Nat) (ka kb : Int) (w : World) (hr : Reads w w.heap.size 6 A l.length (l.flatMap Bk.cells)) (hl : l.length ≤ 9223372036854775807) :
    Calls Try.prog 6 #[.slice A l.length c, .agg #[.int .u64 ka, .int .u64 kb], .bool false] w fun e w' => e = .returned (.bool true) ∧ Below w.heap.size w w' := by
  have hr0 : Reads (w.alloc (.cells #[.int .u64 ka, .int .u64 kb] 25)) (w.alloc (.cells #[.int .u64 ka, .int .u64 kb] 25)).heap.size 6 A l.length (l.flatMap Bk.cells) := (hr.alloc (Nat.le_refl _) _).more (by simp)
  have R := Lib.hid (ref24_right l A c _ hr0 hl)
  have K0 : Blk (w.alloc (.cells #[.int .u64 ka, .int .u64 kb] 25)) w.heap.size 25 #[.int .u64 ka, .int .u64 kb] := Blk.new w _ _
  have hb0 : Below w.heap.size w (w.alloc (.cells #[.int .u64 ka, .int .u64 kb] 25)) := below_alloc (Below.refl _ _) _
  by_cases h13 : 13 < l.length
  · have e13 : decide ((13 : Int) < (l.length : Int)) = true := by simp; omega
    clear R hr0 K0
    go_enter Try.func6, Try.ntmps6
    go_wp2_with (go_at_call 26; (with_reducible refine (awake29 _).mono ?_); rintro e w1 ⟨rfl, hb1⟩)
    go_ret
    exact ⟨rfl, below_chain hb1 hb0⟩
  have e13 : decide ((13 : Int) < (l.length : Int)) = false := by simp; omega
  by_cases h0 : l.length = 0
  · have e0 : ((l.length : Int) == 0) = true := by rw [h0]; rfl
    clear R hr0 K0
    replace h0 := Lib.hid h0
    go_enter Try.func6, Try.ntmps6
    go_wp2_with (go_at_call 26; (with_reducible refine (awake29 _).mono ?_); rintro e w1 ⟨rfl, hb1⟩)
    go_ret
    exact ⟨rfl, below_chain hb1 hb0⟩
  have e0 : ((l.length : Int) == 0) = false := by rw [beq_eq_false_iff_ne]; omega
  have N1 := fun W hr h => new_some 0 l A c ka kb 13 W hr (by omega) (by omega) (by omega) h
  replace N1 := Lib.hid N1
  go_enter Try.func6, Try.ntmps6
  go_wp2_with fail
  refine R.out.mono ?_
  rintro e w0 ⟨r, n0, rfl, rfl, hR⟩
  have hb1 : Below w.heap.size w ((w.alloc (.cells #[.int .u64 ka, .int .u64 kb] 25)).drewN n0) := below_drewN hb0 n0
  have K1 : Blk ((w.alloc (.cells #[.int .u64 ka, .int .u64 kb] 25)).drewN n0) w.heap.size 25 #[.int .u64 ka, .int .u64 kb] := K0
  have hr1 : Reads ((w.alloc (.cells #[.int .u64 ka, .int .u64 kb] 25)).drewN n0) ((w.alloc (.cells #[.int .u64 ka, .int .u64 kb] 25)).drewN n0).heap.size 6 A l.length (l.flatMap Bk.cells) := hr0
  generalize (w.alloc (.cells #[.int .u64 ka, .int .u64 kb] 25)).drewN n0 = w1 at *
  clear R hr0 K0 hb0
  cases r
  · clear hR
    go_wp2_with (go_at_call 26; (with_reducible refine (awake29 _).mono ?_); rintro e w2 ⟨rfl, hb2⟩)
    go_ret
    exact ⟨rfl, below_chain hb2 hb1⟩
  have hL := hR (by trivial)
  clear hR
  have hids := bkRight_ids hL
  have k0 := K1.cell 0
  have k1 := K1.cell 1
  simp at k0 k1
  have hEV := fun k b hb => even_count (ka := ka) (kb := kb) (m := 13) (by omega) hL (k := k) (b := b) hb
  have hTL := tableOf_len (ka := ka) (kb := kb) (m := 13) (by omega) (l := l.map Bk.id) (by rw [List.length_map]; omega) (bkRight_ne hL)
  have hZ := tableOf_zero (ka := ka) (kb := kb) (m := 13) (by omega) (l := l.map Bk.id) (by rw [List.length_map]; omega) (bkRight_ne hL)
  have hSum := turnsSum_all (n := l.length) (by omega) 13
  have hN := fun k (hk : k < l.length) => turnsOf_near (m := 13) hk
  replace hL := Lib.hid hL
  generalize tableOf ka kb 13 (l.map Bk.id) = T at *
  replace hEV := Lib.hid hEV
  replace hSum := Lib.hid hSum
  replace hN := Lib.hid hN
  replace hTL := Lib.hid hTL
  replace hZ := Lib.hid hZ
  go_wp2_with fail
  refine (N1.out _ hr1 hids).mono ?_
  rintro e w2 ⟨g, rfl, hT, -, hb2⟩
  have hbA := below_chain hb2 hb1
  clear N1 hids hb2 K1 k0 k1 e0 e13
  go_wp2_with fail
  go_loopw [10, 11, 12, 13] (fun s a b i wr => ∃ k a' b' : Nat, k ≤ l.length ∧ i = .int .i64 (k : Nat) ∧ s = .int .i64 ((turnsSum l.length 13 k : Nat) : Int) ∧ a = .int .i64 (a' : Int) ∧ b = .int .i64 (b' : Int) ∧ a' ≤ 251 ∧ 13 / l.length ≤ a' ∧ b' ≤ 13 / l.length + 1 ∧ TabAt wr g ka kb T ∧ Below w.heap.size w wr) (fun _ _ _ i _ => l.length - (intOf i).toNat)
  case atStart => exact ⟨0, 13, 0, by omega, rfl, rfl, rfl, rfl, by omega, Nat.div_le_self _ _, Nat.zero_le _, hT, hbA⟩
  case round =>
    obtain ⟨k, a', b', hk, rfl, rfl, rfl, rfl, ha0, ha, hb', hTr, hb⟩ := hrel
    by_cases hlt : k < l.length
    · have hlti : (k : Int) < (l.length : Int) := by omega
      obtain ⟨ad, b, rfl, hbl, hbk, c0, -⟩ := bk_at (hr.below hb) hlt
      have hcnt := hEV.out k b hbk
      have hnear := hN.out k hlt
      have hss := turnsSum_succ l.length 13 k
      have hle : turnsSum l.length 13 k ≤ 100000 := by
        have h1 : ∀ d, k + d ≤ l.length → turnsSum l.length 13 k ≤ turnsSum l.length 13 (k + d) := by
          intro d
          induction d with
          | zero => intro _; exact Nat.le_refl _
          | succ d ih => intro h; have := ih (by omega); have := turnsSum_succ l.length 13 (k + d); rw [← Nat.add_assoc]; omega
        have := h1 (l.length - k) (by omega)
        rw [show k + (l.length - k) = l.length by omega, hSum.out] at this
        omega
      have CT := count_any b.id hTr (by rw [hTL.out]; omega) (by rw [hTL.out]; omega)
      rw [hcnt] at CT
      generalize turnsOf l.length k 13 = q at *
      generalize turnsSum l.length 13 k = z at *
      have hdv : 13 / l.length ≤ 13 := Nat.div_le_self _ _
      generalize 13 / l.length = dv at *
      replace CT := Lib.hid CT
      replace hss := Lib.hid hss
      obtain ⟨hn1, hn2⟩ := hnear
      clear hbk hcnt
      go_wp2_with fail
      refine CT.out.mono ?_
      rintro e w3 ⟨rfl, hb3⟩
      have hT3 := hTr.keep hb3
      have hb4 := below_chain hb3 hb
      clear CT hTr hb3 c0
      go_wp2_with fail
      go_roundw
      case rel => exact ⟨k + 1, min a' q, max b' q, by omega, by go_num, by rw [hss.out]; go_num, by rw [show min (a' : Int) (q : Int) = ((min a' q : Nat) : Int) by omega], by rw [show max (b' : Int) (q : Int) = ((max b' q : Nat) : Int) by omega], by omega, by omega, by omega, hT3, hb4⟩
      case measure => simp [intOf]; omega
    · obtain rfl : k = l.length := by omega
      have hlti : ¬ (l.length : Int) < (l.length : Int) := by omega
      rw [hSum.out]
      have PL := fun W h => places_any (w := W) (g := g) (ka := ka) (kb := kb) (pl := T) h (by rw [hTL.out]; omega) (by rw [hTL.out]; omega)
      have CZ := fun W h => count_any (w := W) (g := g) (ka := ka) (kb := kb) (pl := T) 0 h (by rw [hTL.out]; omega) (by rw [hTL.out]; omega)
      rw [hTL.out] at PL
      rw [hZ.out] at CZ
      have hab : (b' : Int) ≤ (a' : Int) + 1 := by omega
      have habn : b' ≤ a' + 1 := by omega
      replace PL := Lib.hid PL
      replace CZ := Lib.hid CZ
      clear ha hb'
      go_wp2_with fail
      refine (PL.out _ hTr).mono ?_
      rintro e w3 ⟨A3, c3, rfl, hr3, hb3⟩
      have hT3 := hTr.keep hb3
      have hb4 := below_chain hb3 hb
      clear hTr hb3 hb
      go_wp2_with fail
      refine (CZ.out _ hT3).mono ?_
      rintro e w4 ⟨rfl, hb5⟩
      have hb6 := below_chain hb5 hb4
      clear hb5 hb4
      go_wp2_with fail
      refine (awake29 _).mono ?_
      rintro e w5 ⟨rfl, hb7⟩
      go_wp2_with fail
      go_ret
      exact ⟨rfl, below_chain hb7 hb6⟩

set_option maxRecDepth 100000 in
set_option maxHeartbeats 8000000 in
theorem maglevEven_true (l : List Bk) (A : Option Addr) (c : Nat) (ka kb : Int) (w : World) (hr : Reads w w.heap.size 6 A l.length (l.flatMap Bk.cells)) (hl : l.length ≤ 9223372036854775807) :
    Calls Try.prog 6 #[.slice A l.length c, .agg #[.int .u64 ka, .int .u64 kb], .bool true] w fun e w' => e = .returned (.bool true) ∧ Below w.heap.size w w' := by
  have hr0 : Reads (w.alloc (.cells #[.int .u64 ka, .int .u64 kb] 25)) (w.alloc (.cells #[.int .u64 ka, .int .u64 kb] 25)).heap.size 6 A l.length (l.flatMap Bk.cells) := (hr.alloc (Nat.le_refl _) _).more (by simp)
  have R := Lib.hid (ref24_right l A c _ hr0 hl)
  have K0 : Blk (w.alloc (.cells #[.int .u64 ka, .int .u64 kb] 25)) w.heap.size 25 #[.int .u64 ka, .int .u64 kb] := Blk.new w _ _
  have hb0 : Below w.heap.size w (w.alloc (.cells #[.int .u64 ka, .int .u64 kb] 25)) := below_alloc (Below.refl _ _) _
  by_cases h13 : 13 < l.length
  · have e13 : decide ((13 : Int) < (l.length : Int)) = true := by simp; omega
    clear R hr0 K0
    go_enter Try.func6, Try.ntmps6
    go_wp2_with (go_at_call 26; (with_reducible refine (awake29 _).mono ?_); rintro e w1 ⟨rfl, hb1⟩)
    go_ret
    exact ⟨rfl, below_chain hb1 hb0⟩
  have e13 : decide ((13 : Int) < (l.length : Int)) = false := by simp; omega
  by_cases h0 : l.length = 0
  · have e0 : ((l.length : Int) == 0) = true := by rw [h0]; rfl
    clear R hr0 K0
    replace h0 := Lib.hid h0
    go_enter Try.func6, Try.ntmps6
    go_wp2_with (go_at_call 26; (with_reducible refine (awake29 _).mono ?_); rintro e w1 ⟨rfl, hb1⟩)
    go_ret
    exact ⟨rfl, below_chain hb1 hb0⟩
  have e0 : ((l.length : Int) == 0) = false := by rw [beq_eq_false_iff_ne]; omega
  have N1 := fun W hr h => new_some 0 l A c ka kb 251 W hr (by omega) (by omega) (by omega) h
  replace N1 := Lib.hid N1
  go_enter Try.func6, Try.ntmps6
  go_wp2_with fail
  refine R.out.mono ?_
  rintro e w0 ⟨r, n0, rfl, rfl, hR⟩
  have hb1 : Below w.heap.size w ((w.alloc (.cells #[.int .u64 ka, .int .u64 kb] 25)).drewN n0) := below_drewN hb0 n0
  have K1 : Blk ((w.alloc (.cells #[.int .u64 ka, .int .u64 kb] 25)).drewN n0) w.heap.size 25 #[.int .u64 ka, .int .u64 kb] := K0
  have hr1 : Reads ((w.alloc (.cells #[.int .u64 ka, .int .u64 kb] 25)).drewN n0) ((w.alloc (.cells #[.int .u64 ka, .int .u64 kb] 25)).drewN n0).heap.size 6 A l.length (l.flatMap Bk.cells) := hr0
  generalize (w.alloc (.cells #[.int .u64 ka, .int .u64 kb] 25)).drewN n0 = w1 at *
  clear R hr0 K0 hb0
  cases r
  · clear hR
    go_wp2_with (go_at_call 26; (with_reducible refine (awake29 _).mono ?_); rintro e w2 ⟨rfl, hb2⟩)
    go_ret
    exact ⟨rfl, below_chain hb2 hb1⟩
  have hL := hR (by trivial)
  clear hR
  have hids := bkRight_ids hL
  have k0 := K1.cell 0
  have k1 := K1.cell 1
  simp at k0 k1
  have hEV := fun k b hb => even_count (ka := ka) (kb := kb) (m := 251) (by omega) hL (k := k) (b := b) hb
  have hTL := tableOf_len (ka := ka) (kb := kb) (m := 251) (by omega) (l := l.map Bk.id) (by rw [List.length_map]; omega) (bkRight_ne hL)
  have hZ := tableOf_zero (ka := ka) (kb := kb) (m := 251) (by omega) (l := l.map Bk.id) (by rw [List.length_map]; omega) (bkRight_ne hL)
  have hSum := turnsSum_all (n := l.length) (by omega) 251
  have hN := fun k (hk : k < l.length) => turnsOf_near (m := 251) hk
  replace hL := Lib.hid hL
  generalize tableOf ka kb 251 (l.map Bk.id) = T at *
  replace hEV := Lib.hid hEV
  replace hSum := Lib.hid hSum
  replace hN := Lib.hid hN
  replace hTL := Lib.hid hTL
  replace hZ := Lib.hid hZ
  go_wp2_with fail
  refine (N1.out _ hr1 hids).mono ?_
  rintro e w2 ⟨g, rfl, hT, -, hb2⟩
  have hbA := below_chain hb2 hb1
  clear N1 hids hb2 K1 k0 k1 e0 e13
  go_wp2_with fail
  go_loopw [10, 11, 12, 13] (fun s a b i wr => ∃ k a' b' : Nat, k ≤ l.length ∧ i = .int .i64 (k : Nat) ∧ s = .int .i64 ((turnsSum l.length 251 k : Nat) : Int) ∧ a = .int .i64 (a' : Int) ∧ b = .int .i64 (b' : Int) ∧ a' ≤ 251 ∧ 251 / l.length ≤ a' ∧ b' ≤ 251 / l.length + 1 ∧ TabAt wr g ka kb T ∧ Below w.heap.size w wr) (fun _ _ _ i _ => l.length - (intOf i).toNat)
  case atStart => exact ⟨0, 251, 0, by omega, rfl, rfl, rfl, rfl, by omega, Nat.div_le_self _ _, Nat.zero_le _, hT, hbA⟩
  case round =>
    obtain ⟨k, a', b', hk, rfl, rfl, rfl, rfl, ha0, ha, hb', hTr, hb⟩ := hrel
    by_cases hlt : k < l.length
    · have hlti : (k : Int) < (l.length : Int) := by omega
      obtain ⟨ad, b, rfl, hbl, hbk, c0, -⟩ := bk_at (hr.below hb) hlt
      have hcnt := hEV.out k b hbk
      have hnear := hN.out k hlt
      have hss := turnsSum_succ l.length 251 k
      have hle : turnsSum l.length 251 k ≤ 100000 := by
        have h1 : ∀ d, k + d ≤ l.length → turnsSum l.length 251 k ≤ turnsSum l.length 251 (k + d) := by
          intro d
          induction d with
          | zero => intro _; exact Nat.le_refl _
          | succ d ih => intro h; have := ih (by omega); have := turnsSum_succ l.length 251 (k + d); rw [← Nat.add_assoc]; omega
        have := h1 (l.length - k) (by omega)
        rw [show k + (l.length - k) = l.length by omega, hSum.out] at this
        omega
      have CT := count_any b.id hTr (by rw [hTL.out]; omega) (by rw [hTL.out]; omega)
      rw [hcnt] at CT
      generalize turnsOf l.length k 251 = q at *
      generalize turnsSum l.length 251 k = z at *
      have hdv : 251 / l.length ≤ 251 := Nat.div_le_self _ _
      generalize 251 / l.length = dv at *
      replace CT := Lib.hid CT
      replace hss := Lib.hid hss
      obtain ⟨hn1, hn2⟩ := hnear
      clear hbk hcnt
      go_wp2_with fail
      refine CT.out.mono ?_
      rintro e w3 ⟨rfl, hb3⟩
      have hT3 := hTr.keep hb3
      have hb4 := below_chain hb3 hb
      clear CT hTr hb3 c0
      go_wp2_with fail
      go_roundw
      case rel => exact ⟨k + 1, min a' q, max b' q, by omega, by go_num, by rw [hss.out]; go_num, by rw [show min (a' : Int) (q : Int) = ((min a' q : Nat) : Int) by omega], by rw [show max (b' : Int) (q : Int) = ((max b' q : Nat) : Int) by omega], by omega, by omega, by omega, hT3, hb4⟩
      case measure => simp [intOf]; omega
    · obtain rfl : k = l.length := by omega
      have hlti : ¬ (l.length : Int) < (l.length : Int) := by omega
      rw [hSum.out]
      have PL := fun W h => places_any (w := W) (g := g) (ka := ka) (kb := kb) (pl := T) h (by rw [hTL.out]; omega) (by rw [hTL.out]; omega)
      have CZ := fun W h => count_any (w := W) (g := g) (ka := ka) (kb := kb) (pl := T) 0 h (by rw [hTL.out]; omega) (by rw [hTL.out]; omega)
      rw [hTL.out] at PL
      rw [hZ.out] at CZ
      have hab : (b' : Int) ≤ (a' : Int) + 1 := by omega
      have habn : b' ≤ a' + 1 := by omega
      replace PL := Lib.hid PL
      replace CZ := Lib.hid CZ
      clear ha hb'
      go_wp2_with fail
      refine (PL.out _ hTr).mono ?_
      rintro e w3 ⟨A3, c3, rfl, hr3, hb3⟩
      have hT3 := hTr.keep hb3
      have hb4 := below_chain hb3 hb
      clear hTr hb3 hb
      go_wp2_with fail
      refine (CZ.out _ hT3).mono ?_
      rintro e w4 ⟨rfl, hb5⟩
      have hb6 := below_chain hb5 hb4
      clear hb5 hb4
      go_wp2_with fail
      refine (awake29 _).mono ?_
      rintro e w5 ⟨rfl, hb7⟩
      go_wp2_with fail
      go_ret
      exact ⟨rfl, below_chain hb7 hb6⟩
end Go.Proofs.Ytiicgnijiiidcaa
