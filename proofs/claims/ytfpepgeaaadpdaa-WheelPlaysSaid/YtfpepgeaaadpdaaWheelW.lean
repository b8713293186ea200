/- wheel: the law WheelPlays, called. -/
import Derived.Test.YtfpepgeaaadpdaaWheelV
import Derived.Deep.RegionHeld3
namespace Go.Proofs.Ytfpepgeaaadpdaa
open Go Go.RowKit Go.Deep Go.Maps Go.ChangeMaps

/-- What the law keeps from step to step. -/
structure WK (w : World) (base g bm g2 : Nat) (G : Int) (k : Nat) : Prop where
  ex : ∃ (now : Int) (M : LM), WJ w base g bm g2 G now M now M ∧ (0 ≤ now ∧ now ≤ 1099511627776) ∧ lmSorted M ∧ M.length ≤ k
theorem goN_le {now nw : Int} (h : 0 ≤ now ∧ now ≤ 1099511627776) : 0 ≤ goN now nw ∧ goN now nw ≤ 2199023255552 := by
  have := goN_rng (nw := nw) h
  omega
set_option maxRecDepth 100000 in
set_option maxHeartbeats 16000000 in
theorem wheelPlays_calls (G : Int) (l : List WStp) (B : Option Addr) (d : Nat) (w : World) (hr : Reads w w.heap.size 3 B l.length (l.flatMap WStp.cells)) (hl : l.length ≤ 9223372036854775807) (hw8 : ∀ s ∈ l, wstpWf s) :
    Calls Try.prog 3 #[.int .i64 G, .slice B l.length d] w fun e w' => e = .returned (.bool true) ∧ Below w.heap.size w w' := by
  by_cases h40 : 40 < l.length
  · have e40 : decide ((40 : Int) < (l.length : Int)) = true := by simp; omega
    clear hr
    go_enter Try.func3, Try.ntmps3
    go_wp2_with (go_at_call 5; (with_reducible refine (awake17 _).mono ?_); rintro e w1 ⟨rfl, hb1⟩)
    go_ret
    exact ⟨rfl, hb1⟩
  have e40 : decide ((40 : Int) < (l.length : Int)) = false := by simp; omega
  by_cases hG : G < 1 ∨ 1024 < G
  · have N1 := Lib.hid fun w => wheel_new_bad G w hG
    have N2 := Lib.hid fun w => refwheel_new_bad G w hG
    clear hr hw8 hG
    go_enter Try.func3, Try.ntmps3
    go_wp2_with (first
      | (go_at_call 6; (with_reducible refine (N1.out _).mono ?_); rintro e w1 ⟨rfl, rfl⟩)
      | (go_at_call 7; (with_reducible refine (N2.out _).mono ?_); rintro e w2 ⟨rfl, rfl⟩))
    go_loop [7] (fun iv => iv = .int .i64 0) (fun _ => 0)
    case atStart => rfl
    case round =>
      subst hrel
      by_cases h0 : 0 < l.length
      case' pos => have hlti : (0 : Int) < (l.length : Int) := by omega
      case' neg => have hlti : ¬ (0 : Int) < (l.length : Int) := by omega
      all_goals
        go_wp2_with (go_at_call 5; (with_reducible refine (awake17 _).mono ?_); rintro e w3 ⟨rfl, hb3⟩)
        go_ret
        exact ⟨rfl, hb3⟩
  have hG2 : 1 ≤ G ∧ G ≤ 1024 := by omega
  clear hG
  have N1 := Lib.hid (wheel_new G w hG2)
  replace hw8 := Lib.hid hw8
  replace hr := Lib.hid hr
  go_enter Try.func3, Try.ntmps3
  go_wp2_with fail
  refine N1.out.mono ?_
  rintro e w1 ⟨g, bm, Z, rfl, h1, hb1⟩
  clear N1
  replace h1 := Lib.hid h1
  go_wp2_with fail
  refine (refwheel_new G w1 hG2).mono ?_
  rintro e w2 ⟨rfl, h2, hb2⟩
  have hJ := wj_new G w h1.out h2 hb2 rfl
  have hb12 := below_chain hb2 hb1
  clear h1 h2
  have hg2 : w.heap.size ≤ w1.heap.size := hb1.size
  generalize w1.heap.size = g2 at *
  replace hJ := Lib.hid hJ
  go_wp2_with fail
  go_loopw [7] (fun iv wr => ∃ k : Nat, k ≤ l.length ∧ iv = .int .i64 (k : Nat) ∧ WK wr w.heap.size g bm g2 G k ∧ Below w.heap.size w wr) (fun iv _ => l.length - (intOf iv).toNat)
  case atStart => exact ⟨0, by omega, rfl, ⟨0, [], hJ.out, by omega, List.Pairwise.nil, by simp⟩, hb12⟩
  case round =>
    obtain ⟨k, hk, rfl, ⟨now, M, hA, hnow, hMs, hMl⟩, hb⟩ := hrel
    clear hJ hb12 hb1 hb2
    by_cases hlt : k < l.length
    · have hlti : (k : Int) < (l.length : Int) := by omega
      obtain ⟨ad, s, rfl, hbl, hs, c0, c1, c2⟩ := wstp_at hr.out hlt
      have hsw : wstpWf s := hw8.out s (List.mem_of_getElem? hs)
      obtain ⟨s0, si, sn⟩ := s
      dsimp only at *
      have hC : ∀ W, Below w.heap.size w W → (W.cell? (ad.add (k * 3)) = some (.int .i64 s0) ∧ W.cell? ⟨(ad.add (k * 3)).block, (ad.add (k * 3)).off + 1, none⟩ = some (.int .i64 si) ∧ W.cell? ⟨(ad.add (k * 3)).block, (ad.add (k * 3)).off + 2, none⟩ = some (.int .i64 sn)) := fun W hb =>
        ⟨(hb.cell (p := ad.add (k * 3)) (by rw [block_of_add]; exact hbl)).trans c0, (hb.cell (p := ⟨(ad.add (k * 3)).block, (ad.add (k * 3)).off + 1, none⟩) (by rw [block_of_add]; exact hbl)).trans c1, (hb.cell (p := ⟨(ad.add (k * 3)).block, (ad.add (k * 3)).off + 2, none⟩) (by rw [block_of_add]; exact hbl)).trans c2⟩
      replace hC := Lib.hid hC
      obtain ⟨e0, e1, e2⟩ := hC.out wr hb
      have hM5 : M.length ≤ 100000 := by omega
      have hidr := hA.idr
      replace hidr := Lib.hid hidr
      replace hMs := Lib.hid hMs
      replace hA := Lib.hid hA
      replace hs := Lib.hid hs
      replace hsw := Lib.hid hsw
      replace hnow := Lib.hid hnow
      clear c0 c1 c2
      have hbd : Below w.heap.size w wr.drew := hb.drew
      have hAd : WJ wr.drew w.heap.size g bm g2 G now M now M := hA.out.call (Below.refl _ _).drew
      replace hAd := Lib.hid hAd
      by_cases k0 : s0 = 0
      · have k0b : (s0 == 0) = true := by simpa using k0
        have S1 := Lib.hid (wj_set hAd.out hG2 (by have := hnow.out; omega) si sn hM5)
        have S2 := Lib.hid fun W (h : WJ W w.heap.size g bm g2 G now (setMW M si sn) now M) => wj_rset h si sn hM5
        have hl2 := setMW_len M si sn
        have hs2 := setMW_sorted hMs.out si sn
        replace hs2 := Lib.hid hs2
        generalize setMW M si sn = M2 at *
        generalize setOk si sn = ok at *
        have okk : (ok != ok) = false := by simp
        replace k0 := Lib.hid k0
        clear hA hAd hidr
        go_wp2_with fail
        go_region_held3 (fun w' => Below w.heap.size w w' ∧ w'.cell? (ad.add (k * 3)) = some (.int .i64 s0) ∧ w'.cell? ⟨(ad.add (k * 3)).block, (ad.add (k * 3)).off + 1, none⟩ = some (.int .i64 si) ∧ w'.cell? ⟨(ad.add (k * 3)).block, (ad.add (k * 3)).off + 2, none⟩ = some (.int .i64 sn)) ((first | assumption | ((refine ⟨?_, ?_⟩; (first | assumption | exact (Below.refl _ _).drew | exact Below.refl _ _); go_keep)))) (first
          | (go_at_call 8; (with_reducible refine S1.out.mono ?_); rintro e w3 ⟨rfl, hJ3, hb3⟩; have hb3w := hbd.trans hb3; have hS3 := And.intro hb3w (hC.out _ hb3w))
          | (go_at_call 9; (with_reducible refine (S2.out _ (by assumption)).mono ?_); rintro e w4 ⟨rfl, hJ4, hb4⟩; have hb4w := hb3w.trans hb4; have hS4 := And.intro hb4w (hC.out _ hb4w)))
        all_goals
          clear S1 S2 hS3 hS4 hb3 hb4 hJ3 hbd hb e0 e1 e2
          obtain ⟨z1, P2, q2, z2⟩ := wj_cells hJ4
          have NW := Lib.hid fun n => (wj_now (hJ4.call (below_drewN (Below.refl _ _) n)) hG2).mono fun _ _ h => And.intro h.1 h.2.symm
          have LN := Lib.hid fun n => (wj_len (hJ4.call (below_drewN (Below.refl _ _) n)) hG2).mono fun _ _ h => And.intro h.1 h.2.symm
          have hfin := Lib.hid fun n : Nat => And.intro (WK.mk ⟨now, M2, hJ4.call (below_drewN (Below.refl _ _) n), hnow.out, hs2.out, by omega⟩ : WK (w4.drewN n) w.heap.size g bm g2 G (k + 1)) (below_drewN hb4w n)
          generalize M2.length = ml at *
          replace hJ4 := Lib.hid hJ4
          go_wp2_with fail
          go_quiet (first
            | (go_at_call 17; with_reducible exact Calls.quiet_of_same (NW.out _))
            | (go_at_call 18; with_reducible exact Calls.quiet_of_same (LN.out _)))
          go_wp2_with fail
          go_roundw
          case rel => exact ⟨k + 1, by omega, by go_num, (hfin.out nq).1, (hfin.out nq).2⟩
          case measure => simp [intOf]; omega
      by_cases k1 : s0 = 1
      · have k0b : (s0 == 0) = false := by simpa using k0
        have k1b : (s0 == 1) = true := by simpa using k1
        have S1 := Lib.hid (wj_unset hAd.out hG2 si hsw.out)
        have S2 := Lib.hid fun W (h : WJ W w.heap.size g bm g2 G now (lmDel M si) now M) => wj_runset h si hM5
        have hl2 := lmDel_length M si
        have hs2 := lmDel_sorted hMs.out si
        replace hs2 := Lib.hid hs2
        generalize lmDel M si = M2 at *
        generalize lmHas M si = ok at *
        have okk : (ok != ok) = false := by simp
        replace k0 := Lib.hid k0
        replace k1 := Lib.hid k1
        clear hA hAd hidr
        go_wp2_with fail
        go_region_held3 (fun w' => Below w.heap.size w w' ∧ w'.cell? (ad.add (k * 3)) = some (.int .i64 s0) ∧ w'.cell? ⟨(ad.add (k * 3)).block, (ad.add (k * 3)).off + 1, none⟩ = some (.int .i64 si) ∧ w'.cell? ⟨(ad.add (k * 3)).block, (ad.add (k * 3)).off + 2, none⟩ = some (.int .i64 sn)) ((first | assumption | ((refine ⟨?_, ?_⟩; (first | assumption | exact (Below.refl _ _).drew | exact Below.refl _ _); go_keep)))) (first
          | (go_at_call 10; (with_reducible refine S1.out.mono ?_); rintro e w3 ⟨rfl, hJ3, hb3⟩; have hb3w := hbd.trans hb3; have hS3 := And.intro hb3w (hC.out _ hb3w))
          | (go_at_call 11; (with_reducible refine (S2.out _ (by assumption)).mono ?_); rintro e w4 ⟨rfl, hJ4, hb4⟩; have hb4w := hb3w.trans hb4; have hS4 := And.intro hb4w (hC.out _ hb4w)))
        all_goals
          clear S1 S2 hS3 hS4 hb3 hb4 hJ3 hbd hb e0 e1 e2
          obtain ⟨z1, P2, q2, z2⟩ := wj_cells hJ4
          have NW := Lib.hid fun n => (wj_now (hJ4.call (below_drewN (Below.refl _ _) n)) hG2).mono fun _ _ h => And.intro h.1 h.2.symm
          have LN := Lib.hid fun n => (wj_len (hJ4.call (below_drewN (Below.refl _ _) n)) hG2).mono fun _ _ h => And.intro h.1 h.2.symm
          have hfin := Lib.hid fun n : Nat => And.intro (WK.mk ⟨now, M2, hJ4.call (below_drewN (Below.refl _ _) n), hnow.out, hs2.out, by omega⟩ : WK (w4.drewN n) w.heap.size g bm g2 G (k + 1)) (below_drewN hb4w n)
          generalize M2.length = ml at *
          replace hJ4 := Lib.hid hJ4
          go_wp2_with fail
          go_quiet (first
            | (go_at_call 17; with_reducible exact Calls.quiet_of_same (NW.out _))
            | (go_at_call 18; with_reducible exact Calls.quiet_of_same (LN.out _)))
          go_wp2_with fail
          go_roundw
          case rel => exact ⟨k + 1, by omega, by go_num, (hfin.out nq).1, (hfin.out nq).2⟩
          case measure => simp [intOf]; omega
      clear hAd hbd
      by_cases k2 : s0 = 2
      · have k0b : (s0 == 0) = false := by simpa using k0
        have k1b : (s0 == 1) = false := by simpa using k1
        have k2b : (s0 == 2) = true := by simpa using k2
        have S1 := Lib.hid (wj_due hA.out hG2 si hsw.out)
        have S2 := Lib.hid (wj_rdue hA.out si hM5)
        have hJ4 := hA.out
        generalize lmGet M si = gv at *
        generalize lmHas M si = ok at *
        have okk : (ok != ok) = false := by simp
        have gvv : (gv != gv) = false := by simp
        replace k0 := Lib.hid k0
        replace k1 := Lib.hid k1
        replace k2 := Lib.hid k2
        replace hJ4 := Lib.hid hJ4
        clear hA hidr
        go_wp2_with (first
          | (go_at_call 12; (with_reducible refine S1.out.mono ?_); rintro e w3 ⟨rfl, rfl⟩)
          | (go_at_call 13; (with_reducible refine S2.out.mono ?_); rintro e w4 ⟨rfl, rfl⟩))
        replace hJ4 := hJ4.out
        clear S1 S2 e0 e1 e2
        obtain ⟨z1, P2, q2, z2⟩ := wj_cells hJ4
        have NW := Lib.hid fun n => (wj_now (hJ4.call (below_drewN (Below.refl _ _) n)) hG2).mono fun _ _ h => And.intro h.1 h.2.symm
        have LN := Lib.hid fun n => (wj_len (hJ4.call (below_drewN (Below.refl _ _) n)) hG2).mono fun _ _ h => And.intro h.1 h.2.symm
        have hfin := Lib.hid fun n : Nat => And.intro (WK.mk ⟨now, M, hJ4.call (below_drewN (Below.refl _ _) n), hnow.out, hMs.out, by omega⟩ : WK (wr.drewN n) w.heap.size g bm g2 G (k + 1)) (below_drewN hb n)
        generalize M.length = ml at *
        replace hJ4 := Lib.hid hJ4
        go_wp2_with fail
        go_quiet (first
          | (go_at_call 17; with_reducible exact Calls.quiet_of_same (NW.out _))
          | (go_at_call 18; with_reducible exact Calls.quiet_of_same (LN.out _)))
        go_wp2_with fail
        go_roundw
        case rel => exact ⟨k + 1, by omega, by go_num, (hfin.out nq).1, (hfin.out nq).2⟩
        case measure => simp [intOf]; omega
      · have k0b : (s0 == 0) = false := by simpa using k0
        have k1b : (s0 == 1) = false := by simpa using k1
        have k2b : (s0 == 2) = false := by simpa using k2
        have S1 := Lib.hid (wj_go hA.out hG2 hnow.out.1 sn hb.size)
        have S2 := Lib.hid fun W S (h : WJ W w.heap.size g bm g2 G (goN now sn) (delAll M S) now M) (hS : GoS G now sn M S) => wj_rgo h hG2 sn hM5 hMs.out (fun x hx => (hidr.out x hx).2.2) hS
        have hn2 := goN_rng (nw := sn) hnow.out
        generalize goN now sn = now2 at *
        generalize goE now sn = ev at *
        have evv : (ev != ev) = false := by simp
        replace k0 := Lib.hid k0
        replace k1 := Lib.hid k1
        replace k2 := Lib.hid k2
        clear hA
        go_wp2_with fail
        refine S1.out.mono ?_
        rintro e w3 ⟨Q3, q3, S, rfl, hGo, hR3, hq3, hJ3, hb3⟩
        have hb3w := hb.trans hb3
        obtain ⟨e0, e1, e2⟩ := hC.out w3 hb3w
        have S2' := Lib.hid (S2.out w3 S hJ3 hGo)
        have hl2 := delAll_len S M
        have hs2 := delAll_sorted S hMs.out
        replace hs2 := Lib.hid hs2
        have hSl0 : S.length ≤ 4096 := by
          cases hk : goOk now sn
          · rw [hGo.no hk]
            simp
          · exact nodup_len 4096 S hGo.nd fun x hx => by
              obtain ⟨h5, -⟩ := (hGo.mem hk x).1 hx
              obtain ⟨y, hy, rfl⟩ := lmHas_iff.1 h5
              have := hidr.out y hy
              omega
        have hSl : S.length ≤ 1000000 := by omega
        generalize delAll M S = M2 at *
        replace hJ3 := Lib.hid hJ3
        replace hGo := Lib.hid hGo
        clear S1 S2
        go_wp2_with fail
        refine S2'.out.mono ?_
        rintro e w4 ⟨Q4, q4, rfl, hR4, hJ4, hc4, hb4⟩
        have hb4w := hb3w.trans hb4
        have hR5 := hR3.chg hc4 (fun a ha e => hq3 _ ⟨a, ha, rfl⟩ e)
        have SI := sameInts_any Q3 Q4 q3 q4 S S w4 w4.heap.size hR5 hR4 hSl hSl
        have hself : sameL S S = true := by simp [sameL]
        rw [hself] at SI
        replace SI := Lib.hid SI
        replace hJ4 := Lib.hid hJ4
        clear S2' e0 e1 e2
        go_wp2_with fail
        refine SI.out.mono ?_
        rintro e w5 ⟨rfl, m5, rfl⟩
        have hJ5 := hJ4.out.call (below_drewN (Below.refl _ w4) m5)
        have hb5w := below_drewN hb4w m5
        clear SI hJ4 hJ3 hR5 hR4 hc4 hb4
        generalize w4.drewN m5 = w5 at *
        replace hJ5 := Lib.hid hJ5
        go_wp2_with fail
        replace hJ5 := hJ5.out
        obtain ⟨z1, P2, q2, z2⟩ := wj_cells hJ5
        have NW := Lib.hid fun n => (wj_now (hJ5.call (below_drewN (Below.refl _ _) n)) hG2).mono fun _ _ h => And.intro h.1 h.2.symm
        have LN := Lib.hid fun n => (wj_len (hJ5.call (below_drewN (Below.refl _ _) n)) hG2).mono fun _ _ h => And.intro h.1 h.2.symm
        have hfin := Lib.hid fun n : Nat => And.intro (WK.mk ⟨now2, M2, hJ5.call (below_drewN (Below.refl _ _) n), hn2, hs2.out, by omega⟩ : WK (w5.drewN n) w.heap.size g bm g2 G (k + 1)) (below_drewN hb5w n)
        generalize M2.length = ml at *
        replace hJ5 := Lib.hid hJ5
        go_wp2_with fail
        go_quiet (first
          | (go_at_call 17; with_reducible exact Calls.quiet_of_same (NW.out _))
          | (go_at_call 18; with_reducible exact Calls.quiet_of_same (LN.out _)))
        go_wp2_with fail
        go_roundw
        case rel => exact ⟨k + 1, by omega, by go_num, (hfin.out nq).1, (hfin.out nq).2⟩
        case measure => simp [intOf]; omega
    · obtain rfl : k = l.length := by omega
      have hlti : ¬ (l.length : Int) < (l.length : Int) := by omega
      clear hA
      go_wp2_with (go_at_call 5; (with_reducible refine (awake17 _).mono ?_); rintro e w3 ⟨rfl, hb3⟩)
      go_ret
      exact ⟨rfl, below_chain hb3 hb⟩
end Go.Proofs.Ytfpepgeaaadpdaa
