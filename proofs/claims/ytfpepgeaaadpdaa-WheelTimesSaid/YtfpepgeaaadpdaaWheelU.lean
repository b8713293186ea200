/- wheel: the law WheelTimes, called. -/
import Derived.Test.YtfpepgeaaadpdaaWheelT
import Derived.Deep.RegionHeld3
namespace Go.Proofs.Ytfpepgeaaadpdaa
open Go Go.RowKit Go.Deep Go.Maps Go.ChangeMaps

theorem info_boolW : (Try.prog.info? 4).map (fun i => (i.zero, i.size, i.bytes)) = some (some (.bool false), 1, 1) := by kernel_rfl
set_option maxRecDepth 100000 in
set_option maxHeartbeats 16000000 in
theorem wheelTimes_calls (gr : Int) (hgr : 0 ≤ gr ∧ gr ≤ 255) (l : List Int) (B : Option Addr) (d : Nat) (w : World) (hr : Reads w w.heap.size 1 B l.length (l.map (.int .u8))) (hl : l.length ≤ 9223372036854775807) (hw8 : ∀ x ∈ l, 0 ≤ x ∧ x ≤ 255) :
    Calls Try.prog 4 #[.int .u8 gr, .slice B l.length d] w fun e w' => e = .returned (.bool true) ∧ Below w.heap.size w w' := by
  by_cases h20 : 20 < l.length
  · have e20 : decide ((20 : Int) < (l.length : Int)) = true := by simp; omega
    clear hr
    go_enter Try.func4, Try.ntmps4
    go_wp2_with (go_at_call 5; (with_reducible refine (awake17 _).mono ?_); rintro e w1 ⟨rfl, hb1⟩)
    go_ret
    exact ⟨rfl, hb1⟩
  have e20 : decide ((20 : Int) < (l.length : Int)) = false := by simp; omega
  obtain ⟨G, hGe, hG⟩ : ∃ G : Int, 1 + gr % 30 = G ∧ 1 ≤ G ∧ G ≤ 30 := ⟨_, rfl, by omega⟩
  have hG2 : 1 ≤ G ∧ G ≤ 1024 := by omega
  have N := Lib.hid (wheel_new G w hG2)
  obtain ⟨dl, hdl⟩ : ∃ dl : List Int, dl = l.map (· % 101) := ⟨_, rfl⟩
  have hdk : ∀ k, k < l.length → dl.getD k 0 = l.getD k 0 % 101 := fun k hk => by simp [hdl, List.getD_eq_getElem?_getD, hk]
  have hlk : ∀ k, k < l.length → 0 ≤ l.getD k 0 ∧ l.getD k 0 ≤ 255 := fun k hk => by
    have := hw8 _ (List.getElem_mem hk)
    simpa [List.getD_eq_getElem?_getD, hk] using this
  replace hdl := Lib.hid hdl
  replace hdk := Lib.hid hdk
  replace hlk := Lib.hid hlk
  replace hw8 := Lib.hid hw8
  replace hr := Lib.hid hr
  go_enter Try.func4, Try.ntmps4
  go_upto_region 4 with fail
  try rw [hGe]
  go_wp2_with fail
  refine N.out.mono ?_
  rintro e w1 ⟨g, bm, Z, rfl, h1, hb1⟩
  clear N
  replace h1 := Lib.hid h1
  have hgb := h1.out.gb
  go_wp2_with fail
  go_loopw [7] (fun iv wr => ∃ (k : Nat) (R : Nat → List Int) (A : Nat → Option Addr) (C : Nat → Nat) (T : Nat → Int) (Z : Array Value), k ≤ l.length ∧ iv = .int .i64 (k : Nat) ∧ WhAt wr w.heap.size g bm G 0 (wtM dl k) R A C T Z ∧ RowInv (wtM dl k) R T ∧ wInv G 0 (wtM dl k) T ∧ Below w.heap.size w wr) (fun iv _ => l.length - (intOf iv).toNat)
  case atStart => exact ⟨0, _, _, _, _, _, by omega, rfl, h1.out, RowInv.none, wInv.none _ _ _, hb1⟩
  case round =>
    obtain ⟨k, R, A, C, T, Z, hk, rfl, hA, inv, hwi, hb⟩ := hrel
    by_cases hlt : k < l.length
    · have hlti : (k : Int) < (l.length : Int) := by omega
      obtain ⟨ad, rfl, hbl, cx⟩ := (hr.out.below hb).int_at (i := k) hlt
      have hx := hlk.out k hlt
      have hput := wtM_put dl k
      rw [hdk.out k hlt] at hput
      obtain ⟨x, hxe⟩ : ∃ x, l.getD k 0 = x := ⟨_, rfl⟩
      rw [hxe] at cx hx hput
      have S1 := wheel_set hA inv hG2 (by omega) k (by omega) (x % 101) (by omega) (by rw [wtM_len]; omega)
      rw [hput] at S1
      have hpw := fun T' hT2 hTo2 => wInv.put (T' := T') hwi (n := k) (due := x % 101) (fun x hx => (inv.idr x hx).1) hT2 hTo2
      rw [hput] at hpw
      have hbw := fun w' (hc : Chg (whF g bm A) wr w') => hA.below_of hc
      replace S1 := Lib.hid S1
      replace hpw := Lib.hid hpw
      replace hbw := Lib.hid hbw
      clear hA inv hwi hput hxe
      go_wp2_with fail
      refine S1.out.mono ?_
      rintro e w3 ⟨rfl, R2, A2, C2, T2, Z2, hA2, inv2, hT2, hTo2, hc2, -⟩
      have hwi2 := hpw.out T2 hT2 hTo2
      have hb2 : Below w.heap.size w w3 := hb.trans (hbw.out w3 hc2)
      replace hA2 := Lib.hid hA2
      replace inv2 := Lib.hid inv2
      replace hwi2 := Lib.hid hwi2
      clear S1 hpw hbw hc2 hT2 hTo2
      go_wp2_with fail
      go_roundw
      case rel => exact ⟨k + 1, R2, A2, C2, T2, Z2, by omega, by go_num, hA2.out, inv2.out, hwi2.out, hb2⟩
      case measure => simp [intOf]; omega
    · obtain rfl : k = l.length := by omega
      have hlti : ¬ (l.length : Int) < (l.length : Int) := by omega
      replace hA := Lib.hid hA
      replace inv := Lib.hid inv
      replace hwi := Lib.hid hwi
      have hmk := run_make_row' (P := Try.prog) 44 4 (.bool false) 1 Try.underlying44 info_boolW rfl .i64 .i64 l.length (by omega) (by omega)
      go_wp2_with fail
      have hm0 := World.rowIs_made wr (.bool false) l.length 4
      have hA3 := hA.out.call (below_alloc (Below.refl wr.heap.size wr) (.cells (madeCells #[.bool false] l.length) 4))
      have hb3 := below_alloc hb (.cells (madeCells #[.bool false] l.length) 4)
      have hgm : ¬ whF g bm A wr.heap.size := fun hF => by have := (hA.out.whF_lt hF).2; omega
      have hgm2 : w.heap.size ≤ wr.heap.size := hb.size
      clear hmk hA hb
      generalize wr.alloc (.cells (madeCells #[.bool false] l.length) 4) = w3 at *
      generalize wr.heap.size = gm at *
      replace hA3 := Lib.hid hA3
      go_loopw [9] (fun tv wx => ∃ (t : Nat) (M : LM) (R : Nat → List Int) (T : Nat → Int) (Z : Array Value), t ≤ 141 ∧ tv = .int .i64 (t : Nat) ∧ WhAt wx w.heap.size g bm G (max ((t : Int) - 1) 0) M R A C T Z ∧ RowInv M R T ∧ wInv G (max ((t : Int) - 1) 0) M T ∧ (∀ x, lmHas M x = true ↔ 0 ≤ x ∧ x < (l.length : Int) ∧ (t : Int) ≤ turnI G (dl.getD x.toNat 0) * G) ∧ (∀ x, lmHas M x = true → lmGet M x = dl.getD x.toNat 0) ∧ wx.rowIs gm 4 l.length (fun i => .bool (decide (turnI G (dl.getD i 0) * G < (t : Int)))) ∧ Below w.heap.size w wx) (fun tv _ => 141 - (intOf tv).toNat)
      case atStart =>
        have h0 : ∀ i, i < l.length → 0 ≤ turnI G (dl.getD i 0) * G := fun i hi => by
          have h5 := hlk.out i hi
          have h6 := hdk.out i hi
          exact (turn_rng hG2 (by rw [h6]; omega)).1
        refine ⟨0, wtM dl l.length, R, T, Z, by omega, rfl, hA3.out, inv.out, hwi.out, fun x => ?_, fun x hx => ?_, hm0.congr fun i hi => ?_, hb3⟩
        · rw [wtM_has]
          exact ⟨fun h => ⟨h.1, h.2, by have := h0 x.toNat (by omega); omega⟩, fun h => ⟨h.1, h.2.1⟩⟩
        · have h5 := wtM_has.1 hx
          have := wtM_due (dl := dl) (k := l.length) (i := x.toNat) (by omega)
          rwa [Int.toNat_of_nonneg h5.1] at this
        · have := h0 i hi
          rw [decide_eq_false (by omega)]
      case round =>
        obtain ⟨t, M, R, T, Z, ht, rfl, hA, inv, hwi, hMh, hMg, hmet, hb⟩ := hrel
        by_cases ht2 : t < 141
        · have hti : (t : Int) ≤ 140 := by omega
          have GO := Lib.hid (wheel_go_mem hA inv hwi hG2 (by omega) (t : Int) (by omega) hb.size)
          have hbw := fun w' (hc : Chg (whF g bm A) wr w') => hA.below_of hc
          replace hbw := Lib.hid hbw
          replace hMh := Lib.hid hMh
          replace hMg := Lib.hid hMg
          clear hA inv hwi hA3 hm0 hb3
          go_wp2_with fail
          refine GO.out.mono ?_
          rintro e w4 ⟨P, c4, S, R4, T4, Z4, rfl, hmS, hnS, hpS, hrS, hPn, hA4, inv4, hwi4, hc4⟩
          have hmet4 := hmet.of_block (hc4.block hmet.lt hgm)
          have hb4 : Below w.heap.size w w4 := hb.trans (hbw.out w4 hc4)
          have hSx : ∀ x, x ∈ S ↔ 0 ≤ x ∧ x < (l.length : Int) ∧ turnI G (dl.getD x.toNat 0) * G = (t : Int) := fun x => by
            rw [hmS]
            constructor
            · rintro ⟨h5, h6⟩
              have h7 := (hMh.out x).1 h5
              rw [hMg.out x h5] at h6
              exact ⟨h7.1, h7.2.1, by omega⟩
            · rintro ⟨h5, h6, h7⟩
              have h8 := (hMh.out x).2 ⟨h5, h6, by omega⟩
              exact ⟨h8, by rw [hMg.out x h8]; omega⟩
          have hPg : ¬ InB P gm := fun hi => by have := hPn _ hi; have := hmet.lt; omega
          have hSlt : ∀ i j (hi : i < S.length) (hj : j < S.length), i < j → S[i] < S[j] := fun i j hi hj hij => by
            have h5 := (List.pairwise_iff_getElem.1 hpS) i j hi hj hij
            have h6 := (hSx _).1 (List.getElem_mem hi)
            have h7 := (hSx _).1 (List.getElem_mem hj)
            have h8 : S[i] ≠ S[j] := (List.pairwise_iff_getElem.1 (List.nodup_iff_pairwise_ne.1 hnS)) i j hi hj hij
            have g1 := hMg.out _ ((hmS _).1 (List.getElem_mem hi)).1
            have g2 := hMg.out _ ((hmS _).1 (List.getElem_mem hj)).1
            unfold leT at h5
            rw [g1, g2] at h5
            have h9 : turnI G (dl.getD S[i].toNat 0) = turnI G (dl.getD S[j].toNat 0) := Int.eq_of_mul_eq_mul_right (show G ≠ 0 by omega) (h6.2.2.trans h7.2.2.symm)
            omega
          have hSl : S.length ≤ 20 := nodup_len 20 S hnS fun x hx => by
            have := (hSx x).1 hx
            omega
          replace hA4 := Lib.hid hA4
          replace inv4 := Lib.hid inv4
          replace hwi4 := Lib.hid hwi4
          replace hSx := Lib.hid hSx
          replace hSlt := Lib.hid hSlt
          replace hnS := Lib.hid hnS
          replace hmS := Lib.hid hmS
          clear GO hbw hpS hc4 hmet
          go_wp2_with fail
          obtain ⟨wo, rfl⟩ : ∃ wo, wo = wr := ⟨wr, rfl⟩
          go_loopw [12] (fun kv wx => ∃ k : Nat, k ≤ S.length ∧ kv = .int .i64 (k : Nat) ∧ wx.rowIs gm 4 l.length (fun i => .bool (decide (turnI G (dl.getD i 0) * G < (t : Int)) || decide ((i : Int) ∈ S.take k))) ∧ Chg (· = gm) w4 wx) (fun kv _ => S.length - (intOf kv).toNat)
          case atStart => exact ⟨0, by omega, rfl, hmet4.congr fun i hi => by simp, Chg.refl _ _⟩
          case round =>
            obtain ⟨k, hk, rfl, hm5, hc5⟩ := hrel
            have hb5 : Below w.heap.size w wr := below_chg hb4 hc5 (fun b hb e => by have : b = gm := e; omega) hb4.size
            by_cases hk2 : k < S.length
            · have hki : (k : Int) < (S.length : Int) := by omega
              have hrx := hrS.chg hc5 (fun ad hA e => hPg ⟨ad, hA, e⟩)
              obtain ⟨adS, hPS, -, cS⟩ := hrx.int_at hk2
              have hxm := (hSx.out _).1 (List.getElem_mem hk2)
              rw [show S.getD k 0 = S[k] by simp [hk2]] at cS
              have hnm : S[k] ∉ S.take k := fun hi => by
                obtain ⟨j, hj, e⟩ := List.getElem_of_mem hi
                rw [List.length_take] at hj
                have h5 := hSlt.out j k (by omega) hk2 (by omega)
                rw [List.getElem_take] at e
                omega
              have htk : S.take (k + 1) = S.take k ++ [S[k]] := List.take_succ_eq_append_getElem hk2
              have hpv : ∀ j, k = j + 1 → ∃ z, wr.cell? (adS.add j) = some (.int .i64 z) ∧ z < S[k] := fun j hj => by
                obtain ⟨ad2, h5, -, h6⟩ := hrx.int_at (i := j) (by omega)
                rw [hPS] at h5
                cases h5
                refine ⟨_, h6, ?_⟩
                rw [show S.getD j 0 = S[j]'(by omega) by simp [show j < S.length by omega]]
                exact hSlt.out j k (by omega) hk2 (by omega)
              obtain ⟨n, hn⟩ : ∃ n : Nat, S[k] = (n : Int) := ⟨S[k].toNat, by omega⟩
              rw [hn] at cS hxm hnm htk hpv
              rw [Int.toNat_natCast] at hxm
              have hnl : n < l.length := by omega
              obtain ⟨adB, hPB, -, cB⟩ := (hr.out.below hb5).int_at hnl
              have cm := hm5.cell hnl
              have fm := hm5.frozen n
              have hmv : (decide (turnI G (dl.getD n 0) * G < (t : Int)) || decide ((n : Int) ∈ S.take k)) = false := by
                rw [decide_eq_false (show ¬ turnI G (dl.getD n 0) * G < (t : Int) by omega), decide_eq_false hnm]
                rfl
              rw [hmv] at cm
              have hy := hdk.out n hnl
              have hy8 := hlk.out n hnl
              have htf := turn_first (G := G) (d := dl.getD n 0) hG2.1
              rw [hxm.2.2, hy] at htf
              generalize l.getD n 0 = y at *
              have x1 : decide ((n : Int) < 0) = false := by simp
              have x2 : decide (l.length ≤ n) = false := by simp; omega
              have hwy : IntKind.i64.wrap y = y := by simp [IntKind.wrap, IntKind.bits, IntKind.signed]; omega
              have hty : y.tmod 101 = y % 101 := Int.tmod_eq_emod_of_nonneg (by omega)
              generalize y % 101 = z at *
              obtain ⟨htf1, htf2⟩ := htf
              have x3 : decide ((t : Int) < z) = false := by simp; omega
              have x4 : decide (G ≤ (t : Int) - z) = false := by simp; omega
              have x9 : IntKind.i64.wrap ((t : Int) - z) = (t : Int) - z := by simp [IntKind.wrap, IntKind.bits, IntKind.signed]; omega
              subst hPS hPB
              have hrel5 : ∀ nq : Nat, ((wr.drewN nq).setCell ⟨gm, n, none⟩ (.bool true)).rowIs gm 4 l.length (fun i => .bool (decide (turnI G (dl.getD i 0) * G < (t : Int)) || decide ((i : Int) ∈ S.take (k + 1)))) := fun nq => by
                have h5 : (wr.drewN nq).rowIs gm 4 l.length (fun i => .bool (decide (turnI G (dl.getD i 0) * G < (t : Int)) || decide ((i : Int) ∈ S.take k))) := hm5
                refine (h5.set n (.bool true)).congr fun i hi => ?_
                rw [htk]
                by_cases e : i = n
                · subst e
                  simp
                · have : ¬ (i : Int) = (n : Int) := by omega
                  simp [e, this]
              have hcg5 : ∀ nq : Nat, Chg (· = gm) w4 ((wr.drewN nq).setCell ⟨gm, n, none⟩ (.bool true)) := fun nq => Chg.setCell (F := (· = gm)) (p := ⟨gm, n, none⟩) (hc5.drewN nq) (fun _ => rfl) _
              replace hrel5 := Lib.hid hrel5
              replace hcg5 := Lib.hid hcg5
              replace htk := Lib.hid htk
              replace hn := Lib.hid hn
              replace hm5 := Lib.hid hm5
              clear hnm hmv hy hrx
              go_upto_region 23 with fail
              clear hrS hPn hb5 hxm
              refine wp_region_quiet_lit (by kernel_rfl) (by kernel_rfl) ?_
              iterate 38 (quiet_step (fail))
              by_cases hk0 : k = 0
              case' pos =>
                obtain ⟨bq, hbq⟩ : ∃ bq : Bool, bq = false := ⟨_, rfl⟩
                have x5 : decide (0 < k) = bq := by rw [hbq]; simp; omega
                have x6 : (bq = true) = False := by rw [hbq]; simp
                have x7 : (true = bq) = False := by rw [hbq]; simp
                replace hk0 := Lib.hid hk0
                replace hbq := Lib.hid hbq
                clear hpv
              case' neg =>
                obtain ⟨j, hj⟩ : ∃ j, k = j + 1 := ⟨k - 1, by omega⟩
                obtain ⟨z2, cz, hz⟩ := hpv j hj
                have x5 : 0 < k := by omega
                have x6 : decide ((n : Int) ≤ z2) = false := by simp; omega
                have x7 : (k : Int) - 1 = (j : Int) := by omega
                have x8 : (j : Int) < (S.length : Int) := by omega
                have x10 : IntKind.i64.wrap (j : Int) = (j : Int) := by simp [IntKind.wrap, IntKind.bits, IntKind.signed]; omega
                replace hj := Lib.hid hj
                replace hk0 := Lib.hid hk0
                clear hpv
              all_goals
                repeat (quiet_step (fail))
                refine wpQuiet_nil ?_
                intro _ hw'
                obtain ⟨nq, hw''⟩ := hw'
                subst hw''
                go_wp2_with fail
                go_roundw
                case rel => exact ⟨_, by omega, by go_num, hrel5.out nq, hcg5.out nq⟩
                case measure => simp [intOf]; omega
            · obtain rfl : k = S.length := by omega
              have hki : ¬ (S.length : Int) < (S.length : Int) := by omega
              rw [List.take_length] at hm5
              have hA6 := hA4.out.chg hc5 (fun b e hF => by have e2 : b = gm := e; subst e2; exact hgm hF)
              replace hA6 := Lib.hid hA6
              replace hm5 := Lib.hid hm5
              clear hc5 hmet4 hb4 hA4
              go_wp2_with fail
              go_roundw
              case rel =>
                have et : max (((t + 1 : Nat) : Int) - 1) 0 = (t : Int) := by omega
                refine ⟨t + 1, delAll M S, R4, T4, Z4, by omega, by go_num, by rw [et]; exact hA6.out, inv4.out, by rw [et]; exact hwi4.out, fun x => ?_, fun x hx => ?_, hm5.out.congr fun i hi => ?_, hb5⟩
                · rw [lmHas_delAll, hMh.out, hSx.out]
                  omega
                · obtain ⟨h5, h6⟩ := (lmHas_delAll S M).1 hx
                  rw [lmGet_delAll S M h6]
                  exact hMg.out x h5
                · have h5 := hSx.out (i : Int)
                  rw [Int.toNat_natCast] at h5
                  congr 1
                  rw [Bool.eq_iff_iff]
                  simp only [Bool.or_eq_true, decide_eq_true_eq, h5]
                  omega
              case measure => simp [intOf]; omega
        · obtain rfl : t = 141 := by omega
          have hall : ∀ i, i < l.length → turnI G (dl.getD i 0) * G < ((141 : Nat) : Int) := fun i hi => by
            have h5 := (turn_first (G := G) (d := dl.getD i 0) hG.1).2
            have h6 := hdk.out i hi
            have h7 := hlk.out i hi
            omega
          have hM0 : M = [] := by
            cases M with
            | nil => rfl
            | cons y r =>
              have h5 := (hMh y.1).1 (by simp [lmHas])
              have h6 := hall y.1.toNat (by omega)
              omega
          subst hM0
          have LN := Lib.hid (wheel_len hA (by omega))
          have hmt : wr.rowIs gm 4 l.length (fun _ => .bool true) := hmet.congr fun i hi => by rw [decide_eq_true (hall i hi)]
          clear hmet hMh hMg hA inv hwi hall hA3 hm0 hb3
          go_wp2_with fail
          obtain ⟨wo, rfl⟩ : ∃ wo, wo = wr := ⟨wr, rfl⟩
          go_loop [14] (fun iv => ∃ k : Nat, k ≤ l.length ∧ iv = .int .i64 (k : Nat)) (fun iv => l.length - (intOf iv).toNat)
          case atStart => exact ⟨0, by omega, rfl⟩
          case round =>
            obtain ⟨k, hk, rfl⟩ := hrel
            by_cases hk2 : k < l.length
            · have hki : (k : Int) < (l.length : Int) := by omega
              have cm := hmt.cell hk2
              go_wp2_with fail
              go_round
              case rel => exact ⟨k + 1, by omega, by go_num⟩
              case measure => simp [intOf]; omega
            · obtain rfl : k = l.length := by omega
              have hki : ¬ (l.length : Int) < (l.length : Int) := by omega
              go_wp2_with (first
                | (go_at_call 18; (with_reducible refine LN.out.mono ?_); rintro e w8 ⟨rfl, rfl⟩)
                | (go_at_call 5; (with_reducible refine (awake17 _).mono ?_); rintro e w9 ⟨rfl, hb9⟩))
              go_ret
              exact ⟨rfl, below_chain hb9 hb⟩
end Go.Proofs.Ytfpepgeaaadpdaa
