/- maglev: the law MaglevWays, called. -/
import Derived.Test.YtiicgnijiiidcaaMagN
namespace Go.Proofs.Ytiicgnijiiidcaa
open Go Go.RowKit Go.Deep

def metB (a s m j p : Nat) : Bool := (List.range j).any (fun i => wayN a s m i == p)
theorem metB_succ (a s m j p : Nat) : metB a s m (j + 1) p = (metB a s m j p || wayN a s m j == p) := by
  unfold metB; rw [List.range_succ, List.any_append]; simp
theorem metB_new {a s m j : Nat} (hc : Nat.Coprime s m) (hj : j < m) : metB a s m j (wayN a s m j) = false := by
  unfold metB
  rw [List.any_eq_false]
  intro i hi
  have := List.mem_range.1 hi
  simp only [beq_iff_eq]
  intro e
  have := wayN_inj hc (by omega) hj e
  omega

set_option maxRecDepth 100000 in
set_option maxHeartbeats 8000000 in
theorem maglevWays_false (ka kb : Int) (x : Nat) (w : World) (hx : x < 65536) :
    Calls Try.prog 7 #[.agg #[.int .u64 ka, .int .u64 kb], .int .u16 (x : Int), .bool false] w fun e w' => e = .returned (.bool true) ∧ Below w.heap.size w w' := by
  obtain ⟨n, hn⟩ : ∃ n : Nat, max (1 : Int) (x : Int) = (n : Int) := ⟨max 1 x, by omega⟩
  have hn1 : 1 ≤ n ∧ n < 65536 := by omega
  have hWO : WaysOk ([(n : Int)].map (wayOf ka kb 13)) 13 := wayOf_ok (by omega) (by intro i hi; simp at hi; omega)
  have hok := hWO (wayOf ka kb 13 (n : Int)) (by simp)
  clear hWO
  have WJ := fun j W h => refway_any ka kb n 13 j W hn1.2 (by omega) (by omega) h
  have N1 := fun A c W hr => new_some 0 [⟨(n : Int), 1, 1, false, 0, 0⟩] A c ka kb 13 W hr (by omega) (by simp) (by simp) (fun b hb => by obtain rfl := List.mem_singleton.1 hb; exact ⟨by show (1 : Int) ≤ (n : Int); omega, by show (n : Int) ≤ 65535; omega⟩)
  have t1 : tableOf ka kb 13 ([(⟨(n : Int), 1, 1, false, 0, 0⟩ : Bk)].map Bk.id) = List.replicate 13 (n : Int) := by
    have h := tableOf_one (ka := ka) (kb := kb) (m := 13) (by omega) (id := (n : Int)) (by omega)
    exact h
  rw [t1] at N1
  obtain ⟨T, hT⟩ : ∃ T, List.replicate 13 (n : Int) = T := ⟨_, rfl⟩
  have hTl : T.length = 13 := by rw [← hT, List.length_replicate]
  have hTc : T.countP (· == (n : Int)) = 13 := by rw [← hT, List.countP_replicate]; simp
  rw [hT] at N1
  obtain ⟨y, hy⟩ : ∃ y, wayOf ka kb 13 (n : Int) = y := ⟨_, rfl⟩
  rw [hy] at WJ hok
  obtain ⟨yi, ya, ys⟩ := y
  obtain ⟨-, -, hcop⟩ := hok
  simp only at WJ hcop
  have hfull := wayN_full ya ys 13
  have hlt : ∀ j, wayN ya ys 13 j < 13 := fun j => wayN_lt ya ys j (by omega)
  have hmk := run_make_row' (P := Try.prog) 67 4 (.bool false) 1 Try.underlying67 info_bool rfl .i64 .i64 13 (by omega) (by omega)
  have K0 : Blk ((w.alloc (.cells #[.int .u64 ka, .int .u64 kb] 25)).alloc (.cells (madeCells #[.bool false] 13) 4)) w.heap.size 25 #[.int .u64 ka, .int .u64 kb] := (Blk.new w _ _).alloc _
  have M0 : ((w.alloc (.cells #[.int .u64 ka, .int .u64 kb] 25)).alloc (.cells (madeCells #[.bool false] 13) 4)).rowIs (w.heap.size + 1) 4 13 (fun p => .bool (metB ya ys 13 0 p)) := by
    have := World.rowIs_made (w.alloc (.cells #[.int .u64 ka, .int .u64 kb] 25)) (.bool false) 13 4
    simp only [World.size_alloc] at this
    exact this.congr fun p hp => rfl
  have hb0 : Below w.heap.size w ((w.alloc (.cells #[.int .u64 ka, .int .u64 kb] 25)).alloc (.cells (madeCells #[.bool false] 13) 4)) := below_alloc (below_alloc (Below.refl _ _) _) _
  replace WJ := Lib.hid WJ
  replace N1 := Lib.hid N1
  replace hTl := Lib.hid hTl
  replace hTc := Lib.hid hTc
  replace hcop := Lib.hid hcop
  replace hlt := Lib.hid hlt
  replace hfull := Lib.hid hfull
  obtain ⟨hn1, hn2⟩ := hn1
  clear t1 hT hy
  rw [show ((13 : Nat) : Int) = 13 from rfl] at hmk
  go_enter Try.func7, Try.ntmps7
  go_wp2_with fail
  generalize ((w.alloc (.cells #[.int .u64 ka, .int .u64 kb] 25)).alloc (.cells (madeCells #[.bool false] 13) 4)) = w1 at *
  clear hmk
  go_loopw [10] (fun jx wr => ∃ j : Nat, j ≤ 13 ∧ jx = .int .i64 (j : Int) ∧ wr.rowIs (w.heap.size + 1) 4 13 (fun p => .bool (metB ya ys 13 j p)) ∧ Blk wr w.heap.size 25 #[.int .u64 ka, .int .u64 kb] ∧ Below w.heap.size w wr) (fun jx _ => 13 - (intOf jx).toNat)
  case atStart => exact ⟨0, by omega, rfl, M0, K0, hb0⟩
  case round =>
    obtain ⟨j, hj, rfl, hM, hK, hb⟩ := hrel
    have k0 := hK.cell 0
    have k1 := hK.cell 1
    simp at k0 k1
    clear K0 M0 hb0
    have hzK := hK.lt
    have hzM := hM.lt
    by_cases hjm : j < 13
    · have hji : (j : Int) < 13 := by omega
      have WX := WJ.out j
      have hnew := metB_new (a := ya) hcop.out hjm
      have hst := fun p => metB_succ ya ys 13 j p
      have hql := hlt.out j
      obtain ⟨q, hq⟩ : ∃ q, wayN ya ys 13 j = q := ⟨_, rfl⟩
      rw [hq] at WX hnew hst hql
      have hqi : (q : Int) < 13 := by omega
      have hq0 : (0 : Int) ≤ (q : Int) := by omega
      replace WX := Lib.hid WX
      replace hst := Lib.hid hst
      replace hq := Lib.hid hq
      go_wp2_with fail
      refine (WX.out _ (by omega)).mono ?_
      rintro e w2 ⟨rfl, hb2⟩
      have hbA := below_chain hb2 hb
      have hM2 := hM.of_block (hb2.block _ hM.lt)
      have hK2 := hK.call hb2
      have d1 := hM2.cell hql
      rw [hnew] at d1
      have q1 := hM2.frozen q
      have hMf : (w2.setCell ⟨w.heap.size + 1, q, none⟩ (.bool true)).rowIs (w.heap.size + 1) 4 13 (fun p => .bool (metB ya ys 13 (j + 1) p)) := by
        refine (hM2.set q (.bool true)).congr fun p _ => ?_
        rw [hst.out]
        by_cases e : p = q
        · subst e; simp
        · rw [if_neg e]
          have : (q == p) = false := by simpa using fun h => e h.symm
          rw [this, Bool.or_false]
      have hKf := hK2.far (p := ⟨w.heap.size + 1, q, none⟩) (by simp) (.bool true)
      have hbf : Below w.heap.size w (w2.setCell ⟨w.heap.size + 1, q, none⟩ (.bool true)) := hbA.setCell (by simp) _
      clear hb2 hb hM hK hM2 hK2 hbA k0 k1 hnew
      go_wp2_with fail
      go_roundw
      case rel => exact ⟨j + 1, by omega, by go_num, hMf, hKf, hbf⟩
      case measure => simp [intOf]; omega
    · obtain rfl : j = 13 := by omega
      have R1 : Reads (wr.alloc (.cells #[.int .i64 (n : Int), .int .i64 1, .int .i64 1, .bool false, .int .u64 0, .int .u64 0] 47)) (wr.alloc (.cells #[.int .i64 (n : Int), .int .i64 1, .int .i64 1, .bool false, .int .u64 0, .int .u64 0] 47)).heap.size 6 (some ⟨wr.heap.size, 0, none⟩) 1 [.int .i64 (n : Int), .int .i64 1, .int .i64 1, .bool false, .int .u64 0, .int .u64 0] := lits_read wr _ 6 1 _ _ rfl (by simp)
      have hb1 := below_alloc hb (.cells #[.int .i64 (n : Int), .int .i64 1, .int .i64 1, .bool false, .int .u64 0, .int .u64 0] 47)
      have hK1 := hK.alloc (.cells #[.int .i64 (n : Int), .int .i64 1, .int .i64 1, .bool false, .int .u64 0, .int .u64 0] 47)
      go_wp2_with fail
      refine (N1.out _ 1 _ R1).mono ?_
      rintro e w3 ⟨g, rfl, hT1, -, hb3⟩
      have hbC := below_chain hb3 hb1
      have hK3 := hK1.call hb3
      clear hb3 hb1 hb hK hK1 hM R1 k0 k1
      have k0 := hK3.cell 0
      have k1 := hK3.cell 1
      simp at k0 k1
      have W1 := fun W => WJ.out 13 W (by omega)
      have W0 := fun W => WJ.out 0 W (by omega)
      rw [hfull.out] at W1
      obtain ⟨q0, hq0⟩ : ∃ q, wayN ya ys 13 0 = q := ⟨_, rfl⟩
      rw [hq0] at W1 W0
      rw [show ((13 : Nat) : Int) = 13 from rfl] at W1 W0
      rw [show ((0 : Nat) : Int) = 0 from rfl] at W0
      have CT : ∀ W, (Below w3.heap.size w3 W ∧ W.cell? ⟨w.heap.size, 0, none⟩ = some (.int .u64 ka) ∧ W.cell? ⟨w.heap.size, 1, none⟩ = some (.int .u64 kb)) → Calls Try.prog 34 #[.pointer (some ⟨g, 0, none⟩), .int .i64 (n : Int)] W fun e w' => e = .returned (.int .i64 13) ∧ Below W.heap.size W w' := by
        rintro W ⟨hb, -⟩
        have := count_any (n : Int) (hT1.keep hb) (by rw [hTl.out]; omega) (by rw [hTl.out]; omega)
        rw [hTc.out] at this
        exact this
      replace W1 := Lib.hid W1
      replace W0 := Lib.hid W0
      replace CT := Lib.hid CT
      replace hq0 := Lib.hid hq0
      clear N1 hT1
      go_wp2_with fail
      go_region_held3 (fun w' => Below w3.heap.size w3 w' ∧ w'.cell? ⟨w.heap.size, 0, none⟩ = some (.int .u64 ka) ∧ w'.cell? ⟨w.heap.size, 1, none⟩ = some (.int .u64 kb)) ((first | assumption | ((refine ⟨?_, ?_⟩; (first | assumption | exact (Below.refl _ _).drew | exact Below.refl _ _); go_keep)))) (first
        | (go_at_call 34; (with_reducible refine (CT.out _ (by assumption)).mono ?_); rintro e w4 ⟨rfl, hb4⟩; have hS := hold2 (by assumption) hb4)
        | (go_at_call 35; (with_reducible refine (W1.out _).mono ?_); rintro e w4 ⟨rfl, hb4⟩; have hS := hold2 (by assumption) hb4)
        | (go_at_call 35; (with_reducible refine (W0.out _).mono ?_); rintro e w4 ⟨rfl, hb4⟩; have hS := hold2 (by assumption) hb4)
        | (go_at_call 26; (with_reducible refine (awake29 _).mono ?_); rintro e w4 ⟨rfl, hb4⟩; have hS := hold2 (by assumption) hb4))
      all_goals
        go_wp2_with fail
        go_ret
        exact ⟨rfl, below_chain (by exact hS.1) hbC⟩

set_option maxRecDepth 100000 in
set_option maxHeartbeats 8000000 in
theorem maglevWays_true (ka kb : Int) (x : Nat) (w : World) (hx : x < 65536) :
    Calls Try.prog 7 #[.agg #[.int .u64 ka, .int .u64 kb], .int .u16 (x : Int), .bool true] w fun e w' => e = .returned (.bool true) ∧ Below w.heap.size w w' := by
  obtain ⟨n, hn⟩ : ∃ n : Nat, max (1 : Int) (x : Int) = (n : Int) := ⟨max 1 x, by omega⟩
  have hn1 : 1 ≤ n ∧ n < 65536 := by omega
  have hWO : WaysOk ([(n : Int)].map (wayOf ka kb 251)) 251 := wayOf_ok (by omega) (by intro i hi; simp at hi; omega)
  have hok := hWO (wayOf ka kb 251 (n : Int)) (by simp)
  clear hWO
  have WJ := fun j W h => refway_any ka kb n 251 j W hn1.2 (by omega) (by omega) h
  have N1 := fun A c W hr => new_some 0 [⟨(n : Int), 1, 1, false, 0, 0⟩] A c ka kb 251 W hr (by omega) (by simp) (by simp) (fun b hb => by obtain rfl := List.mem_singleton.1 hb; exact ⟨by show (1 : Int) ≤ (n : Int); omega, by show (n : Int) ≤ 65535; omega⟩)
  have t1 : tableOf ka kb 251 ([(⟨(n : Int), 1, 1, false, 0, 0⟩ : Bk)].map Bk.id) = List.replicate 251 (n : Int) := by
    have h := tableOf_one (ka := ka) (kb := kb) (m := 251) (by omega) (id := (n : Int)) (by omega)
    exact h
  rw [t1] at N1
  obtain ⟨T, hT⟩ : ∃ T, List.replicate 251 (n : Int) = T := ⟨_, rfl⟩
  have hTl : T.length = 251 := by rw [← hT, List.length_replicate]
  have hTc : T.countP (· == (n : Int)) = 251 := by rw [← hT, List.countP_replicate]; simp
  rw [hT] at N1
  obtain ⟨y, hy⟩ : ∃ y, wayOf ka kb 251 (n : Int) = y := ⟨_, rfl⟩
  rw [hy] at WJ hok
  obtain ⟨yi, ya, ys⟩ := y
  obtain ⟨-, -, hcop⟩ := hok
  simp only at WJ hcop
  have hfull := wayN_full ya ys 251
  have hlt : ∀ j, wayN ya ys 251 j < 251 := fun j => wayN_lt ya ys j (by omega)
  have hmk := run_make_row' (P := Try.prog) 67 4 (.bool false) 1 Try.underlying67 info_bool rfl .i64 .i64 251 (by omega) (by omega)
  have K0 : Blk ((w.alloc (.cells #[.int .u64 ka, .int .u64 kb] 25)).alloc (.cells (madeCells #[.bool false] 251) 4)) w.heap.size 25 #[.int .u64 ka, .int .u64 kb] := (Blk.new w _ _).alloc _
  have M0 : ((w.alloc (.cells #[.int .u64 ka, .int .u64 kb] 25)).alloc (.cells (madeCells #[.bool false] 251) 4)).rowIs (w.heap.size + 1) 4 251 (fun p => .bool (metB ya ys 251 0 p)) := by
    have := World.rowIs_made (w.alloc (.cells #[.int .u64 ka, .int .u64 kb] 25)) (.bool false) 251 4
    simp only [World.size_alloc] at this
    exact this.congr fun p hp => rfl
  have hb0 : Below w.heap.size w ((w.alloc (.cells #[.int .u64 ka, .int .u64 kb] 25)).alloc (.cells (madeCells #[.bool false] 251) 4)) := below_alloc (below_alloc (Below.refl _ _) _) _
  replace WJ := Lib.hid WJ
  replace N1 := Lib.hid N1
  replace hTl := Lib.hid hTl
  replace hTc := Lib.hid hTc
  replace hcop := Lib.hid hcop
  replace hlt := Lib.hid hlt
  replace hfull := Lib.hid hfull
  obtain ⟨hn1, hn2⟩ := hn1
  clear t1 hT hy
  rw [show ((251 : Nat) : Int) = 251 from rfl] at hmk
  go_enter Try.func7, Try.ntmps7
  go_wp2_with fail
  generalize ((w.alloc (.cells #[.int .u64 ka, .int .u64 kb] 25)).alloc (.cells (madeCells #[.bool false] 251) 4)) = w1 at *
  clear hmk
  go_loopw [10] (fun jx wr => ∃ j : Nat, j ≤ 251 ∧ jx = .int .i64 (j : Int) ∧ wr.rowIs (w.heap.size + 1) 4 251 (fun p => .bool (metB ya ys 251 j p)) ∧ Blk wr w.heap.size 25 #[.int .u64 ka, .int .u64 kb] ∧ Below w.heap.size w wr) (fun jx _ => 251 - (intOf jx).toNat)
  case atStart => exact ⟨0, by omega, rfl, M0, K0, hb0⟩
  case round =>
    obtain ⟨j, hj, rfl, hM, hK, hb⟩ := hrel
    have k0 := hK.cell 0
    have k1 := hK.cell 1
    simp at k0 k1
    clear K0 M0 hb0
    have hzK := hK.lt
    have hzM := hM.lt
    by_cases hjm : j < 251
    · have hji : (j : Int) < 251 := by omega
      have WX := WJ.out j
      have hnew := metB_new (a := ya) hcop.out hjm
      have hst := fun p => metB_succ ya ys 251 j p
      have hql := hlt.out j
      obtain ⟨q, hq⟩ : ∃ q, wayN ya ys 251 j = q := ⟨_, rfl⟩
      rw [hq] at WX hnew hst hql
      have hqi : (q : Int) < 251 := by omega
      have hq0 : (0 : Int) ≤ (q : Int) := by omega
      replace WX := Lib.hid WX
      replace hst := Lib.hid hst
      replace hq := Lib.hid hq
      go_wp2_with fail
      refine (WX.out _ (by omega)).mono ?_
      rintro e w2 ⟨rfl, hb2⟩
      have hbA := below_chain hb2 hb
      have hM2 := hM.of_block (hb2.block _ hM.lt)
      have hK2 := hK.call hb2
      have d1 := hM2.cell hql
      rw [hnew] at d1
      have q1 := hM2.frozen q
      have hMf : (w2.setCell ⟨w.heap.size + 1, q, none⟩ (.bool true)).rowIs (w.heap.size + 1) 4 251 (fun p => .bool (metB ya ys 251 (j + 1) p)) := by
        refine (hM2.set q (.bool true)).congr fun p _ => ?_
        rw [hst.out]
        by_cases e : p = q
        · subst e; simp
        · rw [if_neg e]
          have : (q == p) = false := by simpa using fun h => e h.symm
          rw [this, Bool.or_false]
      have hKf := hK2.far (p := ⟨w.heap.size + 1, q, none⟩) (by simp) (.bool true)
      have hbf : Below w.heap.size w (w2.setCell ⟨w.heap.size + 1, q, none⟩ (.bool true)) := hbA.setCell (by simp) _
      clear hb2 hb hM hK hM2 hK2 hbA k0 k1 hnew
      go_wp2_with fail
      go_roundw
      case rel => exact ⟨j + 1, by omega, by go_num, hMf, hKf, hbf⟩
      case measure => simp [intOf]; omega
    · obtain rfl : j = 251 := by omega
      have R1 : Reads (wr.alloc (.cells #[.int .i64 (n : Int), .int .i64 1, .int .i64 1, .bool false, .int .u64 0, .int .u64 0] 47)) (wr.alloc (.cells #[.int .i64 (n : Int), .int .i64 1, .int .i64 1, .bool false, .int .u64 0, .int .u64 0] 47)).heap.size 6 (some ⟨wr.heap.size, 0, none⟩) 1 [.int .i64 (n : Int), .int .i64 1, .int .i64 1, .bool false, .int .u64 0, .int .u64 0] := lits_read wr _ 6 1 _ _ rfl (by simp)
      have hb1 := below_alloc hb (.cells #[.int .i64 (n : Int), .int .i64 1, .int .i64 1, .bool false, .int .u64 0, .int .u64 0] 47)
      have hK1 := hK.alloc (.cells #[.int .i64 (n : Int), .int .i64 1, .int .i64 1, .bool false, .int .u64 0, .int .u64 0] 47)
      go_wp2_with fail
      refine (N1.out _ 1 _ R1).mono ?_
      rintro e w3 ⟨g, rfl, hT1, -, hb3⟩
      have hbC := below_chain hb3 hb1
      have hK3 := hK1.call hb3
      clear hb3 hb1 hb hK hK1 hM R1 k0 k1
      have k0 := hK3.cell 0
      have k1 := hK3.cell 1
      simp at k0 k1
      have W1 := fun W => WJ.out 251 W (by omega)
      have W0 := fun W => WJ.out 0 W (by omega)
      rw [hfull.out] at W1
      obtain ⟨q0, hq0⟩ : ∃ q, wayN ya ys 251 0 = q := ⟨_, rfl⟩
      rw [hq0] at W1 W0
      rw [show ((251 : Nat) : Int) = 251 from rfl] at W1 W0
      rw [show ((0 : Nat) : Int) = 0 from rfl] at W0
      have CT : ∀ W, (Below w3.heap.size w3 W ∧ W.cell? ⟨w.heap.size, 0, none⟩ = some (.int .u64 ka) ∧ W.cell? ⟨w.heap.size, 1, none⟩ = some (.int .u64 kb)) → Calls Try.prog 34 #[.pointer (some ⟨g, 0, none⟩), .int .i64 (n : Int)] W fun e w' => e = .returned (.int .i64 251) ∧ Below W.heap.size W w' := by
        rintro W ⟨hb, -⟩
        have := count_any (n : Int) (hT1.keep hb) (by rw [hTl.out]; omega) (by rw [hTl.out]; omega)
        rw [hTc.out] at this
        exact this
      replace W1 := Lib.hid W1
      replace W0 := Lib.hid W0
      replace CT := Lib.hid CT
      replace hq0 := Lib.hid hq0
      clear N1 hT1
      go_wp2_with fail
      go_region_held3 (fun w' => Below w3.heap.size w3 w' ∧ w'.cell? ⟨w.heap.size, 0, none⟩ = some (.int .u64 ka) ∧ w'.cell? ⟨w.heap.size, 1, none⟩ = some (.int .u64 kb)) ((first | assumption | ((refine ⟨?_, ?_⟩; (first | assumption | exact (Below.refl _ _).drew | exact Below.refl _ _); go_keep)))) (first
        | (go_at_call 34; (with_reducible refine (CT.out _ (by assumption)).mono ?_); rintro e w4 ⟨rfl, hb4⟩; have hS := hold2 (by assumption) hb4)
        | (go_at_call 35; (with_reducible refine (W1.out _).mono ?_); rintro e w4 ⟨rfl, hb4⟩; have hS := hold2 (by assumption) hb4)
        | (go_at_call 35; (with_reducible refine (W0.out _).mono ?_); rintro e w4 ⟨rfl, hb4⟩; have hS := hold2 (by assumption) hb4)
        | (go_at_call 26; (with_reducible refine (awake29 _).mono ?_); rintro e w4 ⟨rfl, hb4⟩; have hS := hold2 (by assumption) hb4))
      all_goals
        go_wp2_with fail
        go_ret
        exact ⟨rfl, below_chain (by exact hS.1) hbC⟩
end Go.Proofs.Ytiicgnijiiidcaa
