/- load: the law LoadPlays, called. -/
import Derived.Test.YtkpkjpdhlmjchaaLoadI
import Derived.Deep.RegionHeld3
namespace Go.Proofs.Ytkpkjpdhlmjchaa
open Go Go.RowKit Go.Deep Go.Maps Go.ChangeMaps

set_option maxRecDepth 100000 in
set_option maxHeartbeats 16000000 in
theorem loadPlays_calls (ns : List Stp) (B : Option Addr) (d : Nat) (a1 a2 a3 a4 a5 a6 : Int) (w : World) (hn : Reads w w.heap.size 3 B ns.length (ns.flatMap Stp.cells)) (hnl : ns.length ≤ 9223372036854775807) (hnw : ∀ s ∈ ns, stpWf s) :
    Calls Try.prog 9 #[.slice B ns.length d, .int .i64 a1, .int .i64 a2, .int .i64 a3, .int .i64 a4, .int .i64 a5, .int .i64 a6] w fun e w' => e = .returned (.bool true) ∧ Below w.heap.size w w' := by
  by_cases h20 : 40 < ns.length
  · have e20 : decide ((40 : Int) < (ns.length : Int)) = true := by simp; omega
    go_enter Try.func9, Try.ntmps9
    go_wp2_with (go_at_call 53; (with_reducible refine (awake25 _).mono ?_); rintro e w1 ⟨rfl, hb1⟩)
    go_ret
    exact ⟨rfl, hb1⟩
  have e20 : decide ((40 : Int) < (ns.length : Int)) = false := by simp; omega
  have N := Lib.hid load_new
  have hGd := lpGood ns hnw
  have hrun := lpRun_succ ns
  replace hnw := Lib.hid hnw
  replace hGd := Lib.hid hGd
  replace hrun := Lib.hid hrun
  go_enter Try.func9, Try.ntmps9
  go_wp2_with fail
  refine (N.out _).mono ?_
  rintro e w1 ⟨g, b, rfl, hLd, hgw, hbw, hb1⟩
  have hzA := hb1.size
  clear N e20
  have hRl := rload_nil w1
  have hLd2 := hLd.alloc (.cells #[.slice none 0 0, .slice none 0 0] 98)
  go_wp2_with fail
  have hbB : Below w.heap.size w (w1.alloc (.cells #[.slice none 0 0, .slice none 0 0] 98)) := below_alloc hb1 _
  have hg2 : w.heap.size ≤ w1.heap.size := hzA
  generalize w1.alloc (.cells #[.slice none 0 0, .slice none 0 0] 98) = W1 at *
  generalize w1.heap.size = g2 at *
  clear hLd hb1 hzA
  go_loopw [17] (fun i wr => ∃ k : Nat, k ≤ ns.length ∧ i = .int .i64 (k : Nat) ∧ LoadAt wr g b (lpRun (ns.take k)) ∧ RLoadAt wr g2 (lpRun (ns.take k)) ∧ Below w.heap.size w wr) (fun i _ => ns.length - (intOf i).toNat)
  case atStart => exact ⟨0, by omega, rfl, hLd2, hRl, hbB⟩
  case round =>
    obtain ⟨k, hk, rfl, hA, hRA, hb⟩ := hrel
    clear hLd2 hRl hbB
    by_cases hlt : k < ns.length
    · have hlti : (k : Int) < (ns.length : Int) := by omega
      obtain ⟨ad, s, rfl, hbl, hs, c0, c1, c2⟩ := stp_at hn hlt
      have hstep := hrun.out k s hs
      have hG := hGd.out k hk
      have hsw := hnw.out s (List.mem_of_getElem? hs)
      have hG2 := lpGood_step hG hsw
      generalize lpRun (ns.take k) = M at *
      obtain ⟨M', hM'⟩ : ∃ M', lpStep M s = M' := ⟨_, rfl⟩
      rw [hM'] at hstep hG2
      unfold lpStep at hM'
      obtain ⟨s0, si, sn⟩ := s
      dsimp only at *
      have hC : ∀ W, Below w.heap.size w W → (W.cell? (ad.add (k * 3)) = some (.int .i64 s0) ∧ W.cell? ⟨(ad.add (k * 3)).block, (ad.add (k * 3)).off + 1, none⟩ = some (.int .i64 si) ∧ W.cell? ⟨(ad.add (k * 3)).block, (ad.add (k * 3)).off + 2, none⟩ = some (.int .i64 sn)) := fun W hb =>
        ⟨(hb.cell (p := ad.add (k * 3)) (by rw [block_of_add]; exact hbl)).trans c0, (hb.cell (p := ⟨(ad.add (k * 3)).block, (ad.add (k * 3)).off + 1, none⟩) (by rw [block_of_add]; exact hbl)).trans c1, (hb.cell (p := ⟨(ad.add (k * 3)).block, (ad.add (k * 3)).off + 2, none⟩) (by rw [block_of_add]; exact hbl)).trans c2⟩
      replace hC := Lib.hid hC
      obtain ⟨e0, e1, e2⟩ := hC.out wr hb
      have hzr := hb.size
      have hMl := hG.len
      have hMl2 := hG2.len
      replace hs := Lib.hid hs
      replace hstep := Lib.hid hstep
      clear hn c0 c1 c2 hGd hrun hnw
      by_cases h3 : s0 = 3
      case' pos =>
        rw [if_pos h3] at hM'
        have h3b : (s0 == 3) = true := by simpa using h3
        have K1 := load_clear g b M si wr hA hsw
        have K2 := fun W h => refload_clear g2 M si W h hG.sorted (by omega)
        rw [hM'] at K1 K2
        replace K1 := Lib.hid K1
        replace K2 := Lib.hid K2
        clear hM' h3 hG e2
        go_wp2_with fail
        refine K1.out.mono ?_
        rintro e w3 ⟨rfl, hA2, hc2⟩
        have hRA2 := hRA.chg_map hA.2 hc2
        have hb2 := below_chg hb hc2 (fun b' hb' e => by omega) hb.size
        clear hA hRA hc2 hb e0 e1 K1
        obtain ⟨e0, e1, e2⟩ := hC.out w3 hb2
        clear e0 e2
        go_wp2_with fail
        refine (K2.out _ hRA2).mono ?_
        rintro e w5 ⟨rfl, hRA4, hc4⟩
        have hA4 := hA2.chg_ref hRA2 hc4
        have hb4 := below_chg hb2 hc4 (fun b' hb' e => by omega) hb2.size
        clear hA2 hRA2 hb2 hc4 e1 K2
      case' neg =>
        rw [if_neg h3] at hM'
        have h3b : (s0 == 3) = false := by simpa using h3
        have K1 := fun W h => load_add g b M si sn W h hsw hG.pos (by omega)
        have K2 := fun W h => refload_add g2 M si sn W h hG.sorted hG.pos (by omega)
        rw [hM'] at K1 K2
        replace K1 := Lib.hid K1
        replace K2 := Lib.hid K2
        clear hM' h3 hG
        go_wp2_with fail
        refine wp_region_still_tail 11 (by kernel_rfl) (by kernel_rfl) ?_
        simp only [List.take_succ_cons, List.take_zero, List.drop_succ_cons, List.drop_zero]
        repeat still_step
        refine wpStill_nil ?_
        change wpList _ _ _ _ _ wr.drew
        have hA1 : LoadAt wr.drew g b M := hA
        have hRA1 : RLoadAt wr.drew g2 M := hRA
        have hb1 : Below w.heap.size w wr.drew := hb.drew
        clear hA hRA hb e0 e1 e2 hzr
        generalize wr.drew = w2 at *
        go_wp2_with fail
        refine (K1.out _ hA1).mono ?_
        rintro e w3 ⟨rfl, hA2, hc2⟩
        have hRA2 := hRA1.chg_map hA1.2 hc2
        have hb2 := below_chg hb1 hc2 (fun b' hb' e => by omega) hb1.size
        clear hA1 hRA1 hc2 hb1 K1
        obtain ⟨e0, e1, e2⟩ := hC.out w3 hb2
        go_wp2_with fail
        refine wp_region_still_tail 11 (by kernel_rfl) (by kernel_rfl) ?_
        simp only [List.take_succ_cons, List.take_zero, List.drop_succ_cons, List.drop_zero]
        repeat still_step
        refine wpStill_nil ?_
        change wpList _ _ _ _ _ w3.drew
        have hA3 : LoadAt w3.drew g b M' := hA2
        have hRA3 : RLoadAt w3.drew g2 M := hRA2
        have hb3 : Below w.heap.size w w3.drew := hb2.drew
        clear hA2 hRA2 hb2 e0 e1 e2
        generalize w3.drew = w4 at *
        go_wp2_with fail
        refine (K2.out _ hRA3).mono ?_
        rintro e w5 ⟨rfl, hRA4, hc4⟩
        have hA4 := hA3.chg_ref hRA3 hc4
        have hb4 := below_chg hb3 hc4 (fun b' hb' e => by omega) hb3.size
        clear hA3 hRA3 hb3 hc4 K2
      all_goals
        obtain ⟨e0, e1, e2⟩ := hC.out w5 hb4
        clear e0 e2
        obtain ⟨A2, q2, B2, d2, h1, h2, h3⟩ := id hRA4
        have z0 := h1.cell 0
        simp at z0
        clear h1 h3
        have G1 := fun (W : World) (h : Below w5.heap.size w5 W ∧ W.cell? ⟨(ad.add (k * 3)).block, (ad.add (k * 3)).off + 1, none⟩ = some (.int .i64 si) ∧ W.cell? ⟨g2, 0, none⟩ = some (.slice A2 M'.length q2)) => load_get g b M' si W (hA4.call h.1) hsw
        have G2 := fun (W : World) (h : Below w5.heap.size w5 W ∧ W.cell? ⟨(ad.add (k * 3)).block, (ad.add (k * 3)).off + 1, none⟩ = some (.int .i64 si) ∧ W.cell? ⟨g2, 0, none⟩ = some (.slice A2 M'.length q2)) => refload_get g2 M' si W (hRA4.call h.1) (by omega)
        have T1 := fun (W : World) (h : Below w5.heap.size w5 W ∧ W.cell? ⟨(ad.add (k * 3)).block, (ad.add (k * 3)).off + 1, none⟩ = some (.int .i64 si) ∧ W.cell? ⟨g2, 0, none⟩ = some (.slice A2 M'.length q2)) => load_total g b M' W (hA4.call h.1) hG2.sorted hG2.pos hG2.wf (by omega)
        have T2 := fun (W : World) (h : Below w5.heap.size w5 W ∧ W.cell? ⟨(ad.add (k * 3)).block, (ad.add (k * 3)).off + 1, none⟩ = some (.int .i64 si) ∧ W.cell? ⟨g2, 0, none⟩ = some (.slice A2 M'.length q2)) => refload_total g2 M' W (hRA4.call h.1) hG2.pos (by omega)
        have I1 := fun (W : World) (h : Below w5.heap.size w5 W ∧ W.cell? ⟨(ad.add (k * 3)).block, (ad.add (k * 3)).off + 1, none⟩ = some (.int .i64 si) ∧ W.cell? ⟨g2, 0, none⟩ = some (.slice A2 M'.length q2)) => load_ids g b M' W (hA4.call h.1) hG2.sorted (by omega)
        have hll : (M'.map Prod.fst).length = M'.length := List.length_map ..
        have S1 : ∀ (A : Option Addr) (c : Nat) (W : World), (Below w5.heap.size w5 W ∧ W.cell? ⟨(ad.add (k * 3)).block, (ad.add (k * 3)).off + 1, none⟩ = some (.int .i64 si) ∧ W.cell? ⟨g2, 0, none⟩ = some (.slice A2 M'.length q2)) → Reads W W.heap.size 1 A M'.length ((M'.map Prod.fst).map (.int .i64)) →
            Calls Try.prog 26 #[.slice A M'.length c, .slice A2 M'.length q2] W fun e w' => e = .returned (.bool true) ∧ Below W.heap.size W w' := by
          intro A c W hS hr
          have := sameInts_any A A2 c q2 (M'.map Prod.fst) (M'.map Prod.fst) W W.heap.size (by rw [hll]; exact hr) ((h2.below hS.1).more hS.1.size) (by omega) (by omega)
          rw [hll] at this
          refine this.mono ?_
          rintro e w' ⟨rfl, m, rfl⟩
          exact ⟨by simp [sameL], below_drewN (Below.refl _ _) _⟩
        generalize lmGet M' si = gv at *
        generalize lmSum M' = sv at *
        have gvv : (gv != gv) = false := by simp
        have svv : (sv != sv) = false := by simp
        have hk5 := hb4.size
        replace G1 := Lib.hid G1
        replace G2 := Lib.hid G2
        replace T1 := Lib.hid T1
        replace T2 := Lib.hid T2
        replace I1 := Lib.hid I1
        replace S1 := Lib.hid S1
        replace hG2 := Lib.hid hG2
        clear h2 hll hC
        go_wp2_with fail
        go_region_held3 (fun w' => Below w5.heap.size w5 w' ∧ w'.cell? ⟨(ad.add (k * 3)).block, (ad.add (k * 3)).off + 1, none⟩ = some (.int .i64 si) ∧ w'.cell? ⟨g2, 0, none⟩ = some (.slice A2 M'.length q2)) ((first | assumption | ((refine ⟨?_, ?_⟩; (first | assumption | exact (Below.refl _ _).drew | exact Below.refl _ _); go_keep)))) (first
          | (go_at_call 35; (with_reducible refine (G1.out _ (by assumption)).mono ?_); rintro e w6 ⟨rfl, rfl⟩)
          | (go_at_call 56; (with_reducible refine (G2.out _ (by assumption)).mono ?_); rintro e w6 ⟨rfl, rfl⟩)
          | (go_at_call 37; (with_reducible refine (T1.out _ (by assumption)).mono ?_); rintro e w6 ⟨rfl, hb6⟩; have hS := hold2 (by assumption) hb6)
          | (go_at_call 57; (with_reducible refine (T2.out _ (by assumption)).mono ?_); rintro e w6 ⟨rfl, rfl⟩)
          | (go_at_call 58; (with_reducible refine (I1.out _ (by assumption)).mono ?_); rintro e w6 ⟨A1, p1, rfl, hrI, hb6⟩; have hS := hold2 (by assumption) hb6)
          | (go_at_call 26; (with_reducible refine (S1.out _ _ _ (by assumption) (by assumption)).mono ?_); rintro e w6 ⟨rfl, hb6⟩; have hS := hold2 (by assumption) hb6))
        all_goals
          have hSb := hS.1
          have hbE := below_chain hSb hb4
          have hAE := hA4.call hSb
          have hRE := hRA4.call hSb
          clear hS hA4 hRA4 hb4
          go_wp2_with fail
          go_roundw
          case rel => exact ⟨k + 1, by omega, by go_num, by rw [hstep.out]; exact hAE, by rw [hstep.out]; exact hRE, hbE⟩
          case measure => simp [intOf]; omega
    · obtain rfl : k = ns.length := by omega
      have hlti : ¬ (ns.length : Int) < (ns.length : Int) := by omega
      have L1 := fun W => less_any a1 a2 a3 a4 a5 a6 W
      have L2 := fun W => refless_any a1 a2 a3 a4 a5 a6 W
      generalize lessB a1 a2 a3 a4 a5 a6 = lv at *
      have lvv : (lv == lv) = true := by simp
      replace L1 := Lib.hid L1
      replace L2 := Lib.hid L2
      clear hA hRA hn hGd hrun hnw
      go_wp2_with fail
      refine (L1.out _).mono ?_
      rintro e w2 ⟨rfl, hb2⟩
      have hbc := below_chain hb2 hb
      clear hb hb2
      go_wp2_with fail
      refine (L2.out _).mono ?_
      rintro e w3 ⟨rfl, rfl⟩
      go_wp2_with fail
      refine (awake25 _).mono ?_
      rintro e w8 ⟨rfl, hb8⟩
      go_wp2_with fail
      go_ret
      exact ⟨rfl, below_chain hb8 hbc⟩
end Go.Proofs.Ytkpkjpdhlmjchaa
