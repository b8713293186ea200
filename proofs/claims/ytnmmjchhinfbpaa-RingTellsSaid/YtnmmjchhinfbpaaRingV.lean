/- ring: the law RingTells, called. -/
import Derived.Test.YtnmmjchhinfbpaaRingI
import Derived.Test.YtnmmjchhinfbpaaRingH
import Derived.Test.YtnmmjchhinfbpaaRingN
import Derived.Test.YtnmmjchhinfbpaaRingQ
import Derived.Test.YtnmmjchhinfbpaaRingS
namespace Go.Proofs.Ytnmmjchhinfbpaa
open Go Go.RowKit Go.Deep

theorem wf_u64S {x : Int} (h : (Lit.int .u64 x).wf = true) : ∃ m : Nat, x = (m : Int) ∧ m < 18446744073709551616 := by
  simp [Lit.wf, IntKind.min, IntKind.max, IntKind.signed, IntKind.bits] at h
  exact ⟨x.toNat, by omega, by omega⟩
theorem ringE_zero {each : Int} {n : Nat} (h : ringE each n = 0) : ∃ m : Nat, each = (m : Int) ∧ 1 ≤ m ∧ m ≤ 64 ∧ 0 < n := by
  unfold ringE at h
  split at h
  · cases h
  · split at h
    · cases h
    · exact ⟨each.toNat, by omega, by omega, by omega, by omega⟩
set_option maxRecDepth 100000 in
set_option maxHeartbeats 16000000 in
theorem ringTells_calls (l : List Bk) (A : Option Addr) (c : Nat) (ka kb each n id : Int) (t : Tup) (w : World) (hr : Reads w w.heap.size 6 A l.length (l.flatMap Bk.cells)) (hl : l.length ≤ 9223372036854775807)
    (x1 : t.hi < 18446744073709551616) (x2 : t.lo < 18446744073709551616) (x3 : t.hi' < 18446744073709551616) (x4 : t.lo' < 18446744073709551616) :
    Calls Try.prog 3 #[.slice A l.length c, .agg #[.int .u64 ka, .int .u64 kb], .int .i64 each, .int .u64 n, t.val, .int .i64 id] w fun e w' => e = .returned (.bool true) ∧ Below w.heap.size w w' := by
  obtain ⟨w0, hw0⟩ : ∃ w0, w0 = (w.alloc (.cells #[.int .u64 ka, .int .u64 kb] 25)).alloc (.cells t.cells.toArray 29) := ⟨_, rfl⟩
  have hb0 : Below w.heap.size w w0 := hw0 ▸ below_alloc (below_alloc (Below.refl _ _) _) _
  have K0 : Blk w0 w.heap.size 25 #[.int .u64 ka, .int .u64 kb] := hw0 ▸ (Blk.new w _ _).alloc _
  have T0 : Blk w0 (w.heap.size + 1) 29 t.cells.toArray := by
    have := Blk.new (w.alloc (.cells #[.int .u64 ka, .int .u64 kb] 25)) 29 t.cells.toArray
    rw [← hw0] at this
    simpa using this
  have RR := fun W (hb : Below w.heap.size w W) => ref24_right l A c W ((hr.below hb).more hb.size) hl
  have PK := fun W (g : Nat) (S : List Pt) (h : RingAt W g ka kb S) (ok : PtsOk S) => rpick_any t h ok
  have DK := fun W (P : List Pt) (A2 : Option Addr) (c2 : Nat) (h : Reads W W.heap.size 2 A2 P.length (P.flatMap qcell)) (h0 : 0 < P.length) (hl : P.length ≤ 65536) => refpick51 P A2 c2 ka kb t W h h0 hl x1 x2 x3 x4
  generalize sipHash ka kb ⟨(tupPut t).toArray⟩ = hN at *
  clear x1 x2 x3 x4
  obtain ⟨t1, t2, t3, t4, t5, t6, t7, t8, t9⟩ := t
  unfold Tup.val at *
  dsimp only at *
  replace RR := Lib.hid RR
  replace PK := Lib.hid PK
  replace DK := Lib.hid DK
  replace hr := Lib.hid hr
  by_cases h12 : 12 < l.length
  · have d1 : decide ((12 : Int) < (l.length : Int)) = true := by simp; omega
    go_enter Try.func3, Try.ntmps3
    go_wp2_with fail
    rw [← hw0]
    refine (awake51 _).mono ?_
    rintro e w2 ⟨rfl, hb2⟩
    have hb3 := below_chain hb2 hb0
    go_wp2_with fail
    go_ret
    exact ⟨rfl, hb3⟩
  have d1 : decide ((12 : Int) < (l.length : Int)) = false := by simp; omega
  go_enter Try.func3, Try.ntmps3
  go_wp2_with fail
  rw [← hw0]
  clear hw0
  refine (RR.out _ hb0).mono ?_
  rintro e w1 ⟨rr, n1, rfl, rfl, hbr⟩
  have hb1 := below_drewN hb0 n1
  have K1 : Blk (w0.drewN n1) w.heap.size 25 #[.int .u64 ka, .int .u64 kb] := K0
  have T1 : Blk (w0.drewN n1) (w.heap.size + 1) 29 #[.int .i64 t1, .bool t2, .int .u64 t3, .int .u64 t4, .bool t5, .int .u64 t6, .int .u64 t7, .int .i64 t8, .int .i64 t9] := T0
  replace hbr := Lib.hid hbr
  clear hb0 K0 T0 RR
  generalize w0.drewN n1 = w1 at *
  cases rr
  · go_wp2_with fail
    refine (awake51 _).mono ?_
    rintro e w2 ⟨rfl, hb2⟩
    have hb3 := below_chain hb2 hb1
    go_wp2_with fail
    go_ret
    exact ⟨rfl, hb3⟩
  have hbk := hbr.out (by first | rfl | trivial)
  clear hbr
  have hids := rkRight_ids hbk
  clear hbk
  have k0 := K1.cell 0
  have k1 := K1.cell 1
  simp only [List.getElem?_toArray, List.getElem?_cons_zero, List.getElem?_cons_succ] at k0 k1
  by_cases e8 : 8 < each ∧ each ≤ 64
  · have d8 : decide (8 < each) = true := by simpa using e8.1
    have d64 : decide (each ≤ 64) = true := by simpa using e8.2
    clear e8
    go_wp2_with fail
    refine (awake51 _).mono ?_
    rintro e w2 ⟨rfl, hb2⟩
    have hb3 := below_chain hb2 hb1
    go_wp2_with fail
    go_ret
    exact ⟨rfl, hb3⟩
  have hdd : (decide (8 < each) = false) ∨ (decide (8 < each) = true ∧ decide (each ≤ 64) = false) := by
    by_cases q : 8 < each
    · exact .inr ⟨by simpa using q, by simp; omega⟩
    · exact .inl (by simpa using q)
  by_cases hE : ringE each l.length = 0
  case' neg =>
    have N1 := fun W => rnew_err 0 l.length A c ka kb each W hE
    have N2 := fun W => refrnew_err l.length A c ka kb each W hE
    generalize ringE each l.length = r at *
    have d0 : (r != 0) = true := by simpa using hE
    replace N1 := Lib.hid N1
    replace N2 := Lib.hid N2
    clear hE
    replace e8 := Lib.hid e8
    replace hids := Lib.hid hids
    rcases hdd with d8 | ⟨d8, d64⟩
    all_goals
      go_wp2_with fail
      refine (N1.out _).mono ?_
      rintro e w2 ⟨rfl, hb2⟩
      have hb3 := below_chain hb2 hb1
      have K2 := K1.call hb2
      clear K1 k0 k1 hb2
      have k0 := K2.cell 0
      have k1 := K2.cell 1
      simp only [List.getElem?_toArray, List.getElem?_cons_zero, List.getElem?_cons_succ] at k0 k1
      go_wp2_with fail
      refine (N2.out _).mono ?_
      rintro e w4 ⟨rfl, hb4⟩
      have hb5 := below_chain hb4 hb3
      clear K2 k0 k1 hb4
      go_wp2_with fail
      refine (awake51 _).mono ?_
      rintro e w6 ⟨rfl, hb6⟩
      have hb7 := below_chain hb6 hb5
      go_wp2_with fail
      go_ret
      exact ⟨rfl, hb7⟩
  obtain ⟨m, rfl, hm1, hm2, h0⟩ := ringE_zero hE
  have hm8 : m ≤ 8 := by omega
  have d8 : decide ((8 : Int) < (m : Int)) = false := by simp; omega
  clear hdd e8 hE
  have hl0 : l.length ≤ 12 := by omega
  have N1 := fun W (h : Below w.heap.size w W) => rnew_some 0 l A c ka kb m W ((hr.out.below h).more h.size) ⟨hm1, hm2⟩ h0 (by omega) hids
  have N2 := fun W (h : Below w.heap.size w W) => refrnew_some l A c ka kb m W ((hr.out.below h).more h.size) ⟨hm1, hm2⟩ h0 (by omega) hids
  have hPl := ptsOf_len ka kb m l
  have hPr := ptsOf_rg ka kb m l
  generalize ptsOf ka kb l m = P at *
  have hP0 : 0 < P.length := by rw [hPl]; exact Nat.mul_pos h0 hm1
  have hP1 : P.length ≤ 65536 := by
    have : l.length * m ≤ 12 * 8 := Nat.mul_le_mul hl0 hm8
    omega
  replace N1 := Lib.hid N1
  replace N2 := Lib.hid N2
  replace hPl := Lib.hid hPl
  replace hPr := Lib.hid hPr
  clear hids
  go_wp2_with fail
  refine (N1.out _ (by first | exact hb1 | exact hb1.drew)).mono ?_
  rintro e w2 ⟨g, S, rfl, hpS, okS, hRS, hb2⟩
  have hb3 := below_chain hb2 hb1
  have K2 := K1.call hb2
  have T2 := T1.call hb2
  have hSl : S.length = P.length := hpS.length_eq
  have hOw : ∀ z, ownP P z = ownP S z := fun z => ownP_same z fun x => hpS.mem_iff.symm
  have hSh : ∀ z, dShN P z P.length = shN S z S.length := fun z => dShN_eq hpS okS.st (fun p hp => (hPr.out p hp).1) z
  replace hpS := Lib.hid hpS
  replace okS := Lib.hid okS
  replace hSl := Lib.hid hSl
  replace hOw := Lib.hid hOw
  replace hSh := Lib.hid hSh
  clear K1 T1 k0 k1 hb2 hb1 N1
  have k0 := K2.cell 0
  have k1 := K2.cell 1
  simp only [List.getElem?_toArray, List.getElem?_cons_zero, List.getElem?_cons_succ] at k0 k1
  go_wp2_with fail
  refine (N2.out _ (by first | exact hb3 | exact hb3.drew)).mono ?_
  rintro e w4 ⟨A2, c2, rfl, hO4, hb4⟩
  have hb5 := below_chain hb4 hb3
  have K5 := K2.call hb4
  have T5 := T2.call hb4
  have RS5 := hRS.call hb4
  have RD := fun W (h : Below w4.heap.size w4 W) => ((hO4.reads.below h).more h.size)
  have FA := fun W (h : Below w4.heap.size w4 W) => rat_any n (RS5.call h) okS.out
  have FD := fun W (h : Below w4.heap.size w4 W) => refat51 P A2 c2 n W (RD W h) hP0 hP1
  rw [hOw.out] at FD
  have PA := fun W (h : Below w4.heap.size w4 W) => PK.out W g S (RS5.call h) okS.out
  have PD := fun W (h : Below w4.heap.size w4 W) => DK.out W P A2 c2 (RD W h) hP0 hP1
  rw [hOw.out] at PD
  have SA := fun z W (h : Below w4.heap.size w4 W) => rshare_any z (RS5.call h) okS.out
  have SD := fun z W (h : Below w4.heap.size w4 W) => refshare51 P A2 c2 z W (RD W h) hP0 hP1
  have hSh2 := hSh.out
  simp only [hSh2] at SD
  have PO := fun W (h : Below w4.heap.size w4 W) => rpoints_any (RS5.call h) okS.out.ne
  rw [hSl.out] at PO
  generalize (ownP S n).1 = oa at *
  generalize (ownP S hN).1 = ob at *
  obtain ⟨sh, hsh⟩ : ∃ sh : Int → Int, (fun z => u64w (shN S z S.length)) = sh := ⟨_, rfl⟩
  have hsh2 : ∀ z, u64w (shN S z S.length) = sh z := fun z => congrFun hsh z
  simp only [hsh2] at SA SD
  clear hsh hsh2 hSh2 hSh hOw PK DK RD hO4 hRS RS5 hb4 hb3 K2 T2 N2 k0 k1
  have hlid := fun W (h : Below w4.heap.size w4 W) => ((hr.out.below (below_chain h hb5)))
  replace hlid := Lib.hid hlid
  replace FA := Lib.hid FA
  replace FD := Lib.hid FD
  replace PA := Lib.hid PA
  replace PD := Lib.hid PD
  replace SA := Lib.hid SA
  replace SD := Lib.hid SD
  replace PO := Lib.hid PO
  have hbd : ∀ W, Below w4.heap.size w4 W → Below w.heap.size w W := fun W h => below_chain h hb5
  replace hbd := Lib.hid hbd
  clear hSl hpS okS hPl hPr hb5
  go_wp2_with fail
  refine (FA.out _ (by first | exact Below.refl _ _ | exact (Below.refl _ _).drew)).mono ?_
  rintro e w6 ⟨rfl, hb6⟩
  have T6 := T5.call hb6
  have K6 := K5.call hb6
  have c0 := T6.cell 0
  have c1 := T6.cell 1
  have c2' := T6.cell 2
  have c3 := T6.cell 3
  have c4 := T6.cell 4
  have c5 := T6.cell 5
  have c6 := T6.cell 6
  have c7 := T6.cell 7
  have c8 := T6.cell 8
  simp only [List.getElem?_toArray, List.getElem?_cons_zero, List.getElem?_cons_succ] at c0 c1 c2' c3 c4 c5 c6 c7 c8
  clear K5 T5
  go_wp2_with fail
  refine (PA.out _ (by first | exact hb6 | exact hb6.drew)).mono ?_
  rintro e w7 ⟨rfl, hb7⟩
  have hb8 := below_chain hb7 hb6
  have T7 := T6.call hb7
  have K7 := K6.call hb7
  clear c0 c1 c2' c3 c4 c5 c6 c7 c8 K6 T6 hb6 hb7
  go_wp2_with fail
  go_loopw [21] (fun ix wr => ∃ k : Nat, k ≤ l.length ∧ ix = .int .i64 (k : Nat) ∧ Below w4.heap.size w4 wr ∧ Blk wr w.heap.size 25 #[.int .u64 ka, .int .u64 kb] ∧ Blk wr (w.heap.size + 1) 29 #[.int .i64 t1, .bool t2, .int .u64 t3, .int .u64 t4, .bool t5, .int .u64 t6, .int .u64 t7, .int .i64 t8, .int .i64 t9]) (fun ix _ => l.length - (intOf ix).toNat)
  case atStart => exact ⟨0, by omega, rfl, hb8, K7, T7⟩
  case round =>
    obtain ⟨k, hk, rfl, hb, hK, hT⟩ := hrel
    clear K7 T7 hb8
    by_cases hlt : k < l.length
    · have hlti : (k : Int) < (l.length : Int) := by omega
      obtain ⟨ad, b, rfl, hbl, hbk, c0, -⟩ := bk_at (hlid.out wr hb) hlt
      obtain ⟨bi, bw, bs, bv, bh, bo⟩ := b
      dsimp only at c0
      generalize hsv : sh bi = sv at *
      have SA1 := SA.out bi
      have SD1 := SD.out bi
      rw [hsv] at SA1 SD1
      have hbd2 : ∀ W, Below wr.heap.size wr W → Below w4.heap.size w4 W := fun W h => below_chain h hb
      replace hbd2 := Lib.hid hbd2
      replace SA1 := Lib.hid SA1
      replace SD1 := Lib.hid SD1
      replace hbk := Lib.hid hbk
      replace hsv := Lib.hid hsv
      replace hK := Lib.hid hK
      replace hT := Lib.hid hT
      go_wp2_with fail
      go_region_held3 (fun W => Below wr.heap.size wr W ∧ W.cell? (ad.add (k * 6)) = some (.int .i64 bi)) ((first | assumption | ((refine ⟨?_, ?_⟩; (first | assumption | exact (Below.refl _ _).drew | exact Below.refl _ _); go_keep)))) (first
        | (go_at_call 12; (with_reducible refine (SA1.out _ (hbd2.out _ (And.left (by assumption)))).mono ?_); rintro e w9 ⟨rfl, hb9⟩; have hS := hold1 (by assumption) hb9)
        | (go_at_call 13; (with_reducible refine (SD1.out _ (hbd2.out _ (And.left (by assumption)))).mono ?_); rintro e w9 ⟨rfl, hb9⟩; have hS := hold1 (by assumption) hb9))
      all_goals
        have hbE := hbd2.out _ hS.1
        have hKE := hK.out.call hS.1
        have hTE := hT.out.call hS.1
        replace hK := Lib.hid hKE
        replace hT := Lib.hid hTE
        go_wp2_with fail
        go_roundw
        case rel => exact ⟨k + 1, by omega, by go_num, hbE, hKE, hTE⟩
        case measure => simp [intOf]; omega
    · obtain rfl : k = l.length := by omega
      have hlti : ¬ (l.length : Int) < (l.length : Int) := by omega
      generalize hsv : sh id = sv at *
      have SA1 := SA.out id
      have SD1 := SD.out id
      rw [hsv] at SA1 SD1
      replace SA1 := Lib.hid SA1
      replace SD1 := Lib.hid SD1
      replace hsv := Lib.hid hsv
      clear d8
      go_wp2_with fail
      refine (FD.out _ (by first | exact hb | exact hb.drew)).mono ?_
      rintro e w10 ⟨rfl, hb10⟩
      have hb11 := below_chain hb10 hb
      have K11 := hK.call hb10
      have T11 := hT.call hb10
      have k0 := K11.cell 0
      have k1 := K11.cell 1
      have c0 := T11.cell 0
      have c1 := T11.cell 1
      have c2' := T11.cell 2
      have c3 := T11.cell 3
      have c4 := T11.cell 4
      have c5 := T11.cell 5
      have c6 := T11.cell 6
      have c7 := T11.cell 7
      have c8 := T11.cell 8
      simp only [List.getElem?_toArray, List.getElem?_cons_zero, List.getElem?_cons_succ] at k0 k1 c0 c1 c2' c3 c4 c5 c6 c7 c8
      clear hb10 hb hK hT
      go_wp2_with fail
      refine (PD.out _ (by first | exact hb11 | exact hb11.drew)).mono ?_
      rintro e w12 ⟨rfl, hb12⟩
      have hb13 := below_chain hb12 hb11
      clear k0 k1 c0 c1 c2' c3 c4 c5 c6 c7 c8 hb11 hb12 K11 T11
      go_wp2_with fail
      refine (PO.out _ hb13).mono ?_
      rintro e w14 ⟨rfl, rfl⟩
      go_wp2_with fail
      refine (SA1.out _ hb13).mono ?_
      rintro e w15 ⟨rfl, hb14⟩
      have hb15 := below_chain hb14 hb13
      clear hb14 hb13
      go_wp2_with fail
      refine (SD1.out _ hb15).mono ?_
      rintro e w16 ⟨rfl, hb16⟩
      have hb17 := below_chain hb16 hb15
      clear hb15 hb16
      go_wp2_with fail
      refine (awake51 _).mono ?_
      rintro e w18 ⟨rfl, hb18⟩
      have hb19 := hbd.out _ (below_chain hb18 hb17)
      go_wp2_with fail
      go_ret
      exact ⟨rfl, hb19⟩
end Go.Proofs.Ytnmmjchhinfbpaa
