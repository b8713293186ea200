/- two: the law TwoTells, called. -/
import Derived.Test.YtdkcjfcjckpjcaaTwoH
namespace Go.Proofs.Ytdkcjfcjckpjcaa
open Go Go.RowKit Go.Deep

theorem rload_nil (w : World) : RLoadAt (w.alloc (.cells #[.slice none 0 0, .slice none 0 0] 97)) w.heap.size [] :=
  ⟨none, 0, none, 0, Blk.new w _ _, Reads.none_, Reads.none_⟩
theorem LoadAt.alloc {w : World} {g b : Nat} {M : LM} (h : LoadAt w g b M) (o : Obj) : LoadAt (w.alloc o) g b M := h.call (below_alloc (Below.refl _ _) o)
theorem RLoadAt.alloc {w : World} {g : Nat} {M : LM} (h : RLoadAt w g M) (o : Obj) : RLoadAt (w.alloc o) g M := h.call (below_alloc (Below.refl _ _) o)

set_option maxRecDepth 100000 in
set_option maxHeartbeats 8000000 in
theorem twoTells_calls (l : List Bk) (A : Option Addr) (c : Nat) (ns : List Stp) (B : Option Addr) (d : Nat) (ds : List Int) (D : Option Addr) (q : Nat) (x y : Nat) (w : World) (hr : Reads w w.heap.size 6 A l.length (l.flatMap Bk.cells)) (hl : l.length ≤ 9223372036854775807)
    (hn : Reads w w.heap.size 3 B ns.length (ns.flatMap Stp.cells)) (hnl : ns.length ≤ 9223372036854775807) (hnw : ∀ s ∈ ns, stpWf s) (hd : Reads w w.heap.size 1 D ds.length (ds.map (.int .u64))) (hdl : ds.length ≤ 9223372036854775807) (hdw : ∀ x ∈ ds, 0 ≤ x ∧ x < 18446744073709551616)
    (hx : x < 18446744073709551616) (hy : y < 18446744073709551616) :
    Calls Try.prog 12 #[.slice A l.length c, .slice B ns.length d, .slice D ds.length q, .int .u64 x, .int .u64 y] w fun e w' => e = .returned (.bool true) ∧ Below w.heap.size w w' := by
  have R := Lib.hid (law28_right l A c w hr hl)
  go_enter Try.func12, Try.ntmps12
  go_wp2_with fail
  refine R.out.mono ?_
  rintro e w0 ⟨r, n0, rfl, rfl, hR⟩
  have hb0 : Below w.heap.size w (w.drewN n0) := (by repeat (first | exact Below.refl _ _ | assumption | refine below_alloc ?_ _ | refine below_chain (by assumption) ?_ | refine below_call2 (by assumption) ?_ (by first | omega | (simp; done) | (simp; omega) | (simp [World.setCell]; omega)) | refine below_drewN ?_ _ | refine Below.drew ?_ | refine Below.alloc ?_ (by first | omega | (simp; done) | (simp; omega) | (simp [World.setCell]; omega)) _ | refine Below.setCell ?_ (by first | omega | (simp; done) | (simp; omega) | (simp [World.setCell]; omega)) _))
  clear R
  cases r
  · clear hR
    go_wp2_with (go_at_call 77; (with_reducible refine (awake28 _).mono ?_); rintro e w1 ⟨rfl, hb1⟩)
    go_ret
    exact ⟨rfl, below_chain hb1 hb0⟩
  have hL := hR (by trivial)
  clear hR
  by_cases h20 : 20 < ns.length
  · have e20 : decide ((20 : Int) < (ns.length : Int)) = true := by simp; omega
    clear hL
    go_wp2_with (go_at_call 77; (with_reducible refine (awake28 _).mono ?_); rintro e w1 ⟨rfl, hb1⟩)
    go_ret
    exact ⟨rfl, below_chain hb1 hb0⟩
  have e20 : decide ((20 : Int) < (ns.length : Int)) = false := by simp; omega
  by_cases h10 : 10 < ds.length
  · have e10 : decide ((10 : Int) < (ds.length : Int)) = true := by simp; omega
    clear hL
    go_wp2_with (go_at_call 77; (with_reducible refine (awake28 _).mono ?_); rintro e w1 ⟨rfl, hb1⟩)
    go_ret
    exact ⟨rfl, below_chain hb1 hb0⟩
  have e10 : decide ((10 : Int) < (ds.length : Int)) = false := by simp; omega
  have N := Lib.hid load_new
  have hwf := Lib.hid (bkLaw_wf hL)
  have hl12 := hL.1
  replace hL := Lib.hid hL
  replace hnw := Lib.hid hnw
  replace hdw := Lib.hid hdw
  go_wp2_with fail
  refine (N.out _).mono ?_
  rintro e w1 ⟨g, b, rfl, hLd, hg0, hb0', hb1⟩
  have hbA := below_chain hb1 hb0
  have hgw : w.heap.size ≤ g := hg0
  have hbw : w.heap.size ≤ b := hb0'
  have hzA := hbA.size
  clear hb1 hb0 N hg0 hb0' e20 e10
  have hRl := rload_nil w1
  have hLd2 := hLd.alloc (.cells #[.slice none 0 0, .slice none 0 0] 97)
  go_wp2_with fail
  have hbB : Below w.heap.size w (w1.alloc (.cells #[.slice none 0 0, .slice none 0 0] 97)) := below_alloc hbA _
  have hg2 : w.heap.size ≤ w1.heap.size := hzA
  generalize w1.alloc (.cells #[.slice none 0 0, .slice none 0 0] 97) = W1 at *
  generalize w1.heap.size = g2 at *
  clear hLd hbA hzA
  go_loopw [13] (fun i wr => ∃ k : Nat, k ≤ ns.length ∧ i = .int .i64 (k : Nat) ∧ LoadAt wr g b (lmRun (ns.take k)) ∧ RLoadAt wr g2 (lmRun (ns.take k)) ∧ Below w.heap.size w wr) (fun i _ => ns.length - (intOf i).toNat)
  case atStart => exact ⟨0, by omega, rfl, hLd2, hRl, hbB⟩
  case round =>
    obtain ⟨k, hk, rfl, hA, hRA, hb⟩ := hrel
    by_cases hlt : k < ns.length
    · have hlti : (k : Int) < (ns.length : Int) := by omega
      obtain ⟨ad, s, rfl, hbl, hs, c0, c1, c2⟩ := stp_at hn hlt
      have hstep := lmRun_succ ns k s hs
      obtain ⟨f1, f2, f3⟩ := lmRun_facts (ns.take k)
      have f4 : (ns.take k).length ≤ k := List.length_take_le _ _
      have hsw := hnw.out s (List.mem_of_getElem? hs)
      generalize lmRun (ns.take k) = M at *
      obtain ⟨s0, si, sn⟩ := s
      dsimp only at *
      have e1 := (hb.cell (p := ⟨(ad.add (k * 3)).block, (ad.add (k * 3)).off + 1, none⟩) (by rw [block_of_add]; exact hbl)).trans c1
      have e2 := (hb.cell (p := ⟨(ad.add (k * 3)).block, (ad.add (k * 3)).off + 2, none⟩) (by rw [block_of_add]; exact hbl)).trans c2
      have hzr := hb.size
      have hMl : M.length ≤ 100000 := by omega
      replace hs := Lib.hid hs
      replace hstep := Lib.hid hstep
      replace c1 := Lib.hid c1
      replace c2 := Lib.hid c2
      clear hLd2 hRl hbB hr hl hn hnl hd hdl hl12 c0
      go_wp2_with fail
      refine wp_region_still_tail 11 (by kernel_rfl) (by kernel_rfl) ?_
      simp only [List.take_succ_cons, List.take_zero, List.drop_succ_cons, List.drop_zero]
      repeat still_step
      refine wpStill_nil ?_
      change wpList _ _ _ _ _ wr.drew
      have hA1 : LoadAt wr.drew g b M := hA
      have hRA1 : RLoadAt wr.drew g2 M := hRA
      have hb1 : Below w.heap.size w wr.drew := hb.drew
      clear hA hRA hb e1 e2
      generalize wr.drew = w2 at *
      go_wp2_with fail
      refine (load_add g b M si sn w2 hA1 hsw f1 (by omega)).mono ?_
      rintro e w3 ⟨rfl, hA2, hc2⟩
      have hRA2 := hRA1.chg_map hA1.2 hc2
      have hb2 := below_chg hb1 hc2 (fun b' hb' e => by omega) hb1.size
      clear hA1 hRA1 hc2 hb1
      have e1 := (hb2.cell (p := ⟨(ad.add (k * 3)).block, (ad.add (k * 3)).off + 1, none⟩) (by rw [block_of_add]; exact hbl)).trans c1.out
      have e2 := (hb2.cell (p := ⟨(ad.add (k * 3)).block, (ad.add (k * 3)).off + 2, none⟩) (by rw [block_of_add]; exact hbl)).trans c2.out
      go_wp2_with fail
      refine wp_region_still_tail 11 (by kernel_rfl) (by kernel_rfl) ?_
      simp only [List.take_succ_cons, List.take_zero, List.drop_succ_cons, List.drop_zero]
      repeat still_step
      refine wpStill_nil ?_
      change wpList _ _ _ _ _ w3.drew
      have hA3 : LoadAt w3.drew g b (lmAdd M si sn) := hA2
      have hRA3 : RLoadAt w3.drew g2 M := hRA2
      have hb3 : Below w.heap.size w w3.drew := hb2.drew
      clear hA2 hRA2 hb2 e1 e2
      generalize w3.drew = w4 at *
      go_wp2_with fail
      refine (refload_add g2 M si sn w4 hRA3 f2 f1 (by omega)).mono ?_
      rintro e w5 ⟨rfl, hRA4, hc4⟩
      have hA4 := hA3.chg_ref hRA3 hc4
      have hb4 := below_chg hb3 hc4 (fun b' hb' e => by omega) hb3.size
      go_wp2_with fail
      go_roundw
      case rel => exact ⟨k + 1, by omega, by go_num, by rw [hstep.out]; exact hA4, by rw [hstep.out]; exact hRA4, hb4⟩
      case measure => simp [intOf]; omega
    · obtain rfl : k = ns.length := by omega
      have hlti : ¬ (ns.length : Int) < (ns.length : Int) := by omega
      rw [List.take_length] at hA hRA
      obtain ⟨f1, f2, f3⟩ := lmRun_facts ns
      have K1 := fun W hr => two_draw 0 l A c x W hx hr (by omega)
      have K2 := fun W hr => ref_draw l A c x W hx hr (by omega)
      have K3 := fun W hr h => two_pick 0 l A c g b (lmRun ns) x y W hr (by omega) hx hy h hwf.out
      have K4 := fun W hr h => ref_pick l A c g2 (lmRun ns) x y W hr (by omega) hx hy h (by omega)
      have K5 := fun W hr hd h => two_best 0 l A c g b (lmRun ns) D q ds W hr (by omega) hd (by omega) hdw.out h hwf.out
      have K6 := fun W hr hd h => ref_best l A c g2 (lmRun ns) D q ds W hr (by omega) hd (by omega) hdw.out h (by omega)
      generalize drawB l x = y1 at *
      generalize drawOk l = o1 at *
      generalize (foldB (lmRun ns) (drawnL l [(x : Int), (y : Int)])).id = i2 at *
      generalize decide (0 < (drawnL l [(x : Int), (y : Int)]).length) = o2 at *
      generalize (foldB (lmRun ns) (drawnL l ds)).id = i3 at *
      generalize decide (0 < (drawnL l ds).length) = o3 at *
      obtain ⟨yi, yw, ys, yv, yh, yo⟩ := y1
      unfold Bk.val at K1 K2
      dsimp only at K1 K2
      replace K1 := Lib.hid K1
      replace K2 := Lib.hid K2
      replace K3 := Lib.hid K3
      replace K4 := Lib.hid K4
      replace K5 := Lib.hid K5
      replace K6 := Lib.hid K6
      have hRl2 := Lib.hid fun (W : World) (h : Below w.heap.size w W) => (show Reads W W.heap.size 6 A l.length (l.flatMap Bk.cells) from (hr.below h).more h.size)
      have hRd := Lib.hid fun (W : World) (h : Below w.heap.size w W) => (show Reads W W.heap.size 1 D ds.length (ds.map (.int .u64)) from (hd.below h).more h.size)
      clear hr hd hn hLd2 hRl hbB hwf hdw f1 f2 f3 hlt hk hlti hl hnl hdl h20 h10 hL hnw hl12
      have hA1 := hA.alloc (.cells #[.int .i64 0, .slice A l.length c] 102)
      have hRA1 := hRA.alloc (.cells #[.int .i64 0, .slice A l.length c] 102)
      have B1 := Blk.new wr 102 #[.int .i64 0, .slice A l.length c]
      have hb1 := below_alloc hb (.cells #[.int .i64 0, .slice A l.length c] 102)
      go_wp2_with fail
      clear hA hRA hb
      refine (K1.out _ (hRl2.out _ hb1)).mono ?_
      rintro e w2 ⟨rfl, hb2⟩
      have C1 := (B1.call hb2).alloc (.cells #[.int .i64 yi, .int .i64 yw, .int .i64 ys, .bool yv, .int .u64 yh, .int .u64 yo] 106)
      have C2 := Blk.new w2 106 #[.int .i64 yi, .int .i64 yw, .int .i64 ys, .bool yv, .int .u64 yh, .int .u64 yo]
      have hA2 := (hA1.call hb2).alloc (.cells #[.int .i64 yi, .int .i64 yw, .int .i64 ys, .bool yv, .int .u64 yh, .int .u64 yo] 106)
      have hRA2 := (hRA1.call hb2).alloc (.cells #[.int .i64 yi, .int .i64 yw, .int .i64 ys, .bool yv, .int .u64 yh, .int .u64 yo] 106)
      have hbb := below_alloc (below_chain hb2 hb1) (.cells #[.int .i64 yi, .int .i64 yw, .int .i64 ys, .bool yv, .int .u64 yh, .int .u64 yo] 106)
      clear hA1 hRA1 B1 hb1 hb2
      go_wp2_with fail
      refine (K2.out _ (hRl2.out _ hbb)).mono ?_
      rintro e w3 ⟨rfl, hb3⟩
      have D1 := (C1.call hb3).alloc (.cells #[.int .i64 yi, .int .i64 yw, .int .i64 ys, .bool yv, .int .u64 yh, .int .u64 yo] 106)
      have D2 := (C2.call hb3).alloc (.cells #[.int .i64 yi, .int .i64 yw, .int .i64 ys, .bool yv, .int .u64 yh, .int .u64 yo] 106)
      have D3 := Blk.new w3 106 #[.int .i64 yi, .int .i64 yw, .int .i64 ys, .bool yv, .int .u64 yh, .int .u64 yo]
      have hA3 := (hA2.call hb3).alloc (.cells #[.int .i64 yi, .int .i64 yw, .int .i64 ys, .bool yv, .int .u64 yh, .int .u64 yo] 106)
      have hRA3 := (hRA2.call hb3).alloc (.cells #[.int .i64 yi, .int .i64 yw, .int .i64 ys, .bool yv, .int .u64 yh, .int .u64 yo] 106)
      have hbc := below_alloc (below_chain hb3 hbb) (.cells #[.int .i64 yi, .int .i64 yw, .int .i64 ys, .bool yv, .int .u64 yh, .int .u64 yo] 106)
      clear hA2 hRA2 C1 C2 hbb hb3
      have s0 := D1.cell 0
      have s1 := D1.cell 1
      simp only [List.getElem?_toArray, List.getElem?_cons_zero, List.getElem?_cons_succ] at s0 s1
      go_wp2_with fail
      refine (K3.out _ (hRl2.out _ hbc) hA3).mono ?_
      rintro e w4 ⟨rfl, hb4⟩
      have E1 := D1.call hb4
      have E2 := D2.call hb4
      have E3 := D3.call hb4
      have hA4 := hA3.call hb4
      have hRA4 := hRA3.call hb4
      have hbd := below_chain hb4 hbc
      clear hA3 hRA3 D1 D2 D3 hbc hb4 s0 s1
      go_wp2_with fail
      refine (K4.out _ (hRl2.out _ hbd) hRA4).mono ?_
      rintro e w5 ⟨rfl, hb5⟩
      have F1 := E1.call hb5
      have F2 := E2.call hb5
      have F3 := E3.call hb5
      have hA5 := hA4.call hb5
      have hRA5 := hRA4.call hb5
      have hbe := below_chain hb5 hbd
      clear hA4 hRA4 E1 E2 E3 hbd hb5
      have s0 := F1.cell 0
      have s1 := F1.cell 1
      simp only [List.getElem?_toArray, List.getElem?_cons_zero, List.getElem?_cons_succ] at s0 s1
      go_wp2_with fail
      refine (K5.out _ (hRl2.out _ hbe) (hRd.out _ hbe) hA5).mono ?_
      rintro e w6 ⟨rfl, hb6⟩
      have G2 := F2.call hb6
      have G3 := F3.call hb6
      have hRA6 := hRA5.call hb6
      have hbf := below_chain hb6 hbe
      clear hA5 hRA5 F1 F2 F3 hbe hb6 s0 s1
      go_wp2_with fail
      refine (K6.out _ (hRl2.out _ hbf) (hRd.out _ hbf) hRA6).mono ?_
      rintro e w7 ⟨rfl, hb7⟩
      have H2 := G2.call hb7
      have H3 := G3.call hb7
      have hbg := below_chain hb7 hbf
      clear hRA6 G2 G3 hbf hb7
      obtain ⟨⟨p0, p1, p2, p3, p4, p5⟩, -⟩ := H2.six
      obtain ⟨⟨t0, t1, t2, t3, t4, t5⟩, -⟩ := H3.six
      go_wp2_with fail
      refine (awake28 _).mono ?_
      rintro e w8 ⟨rfl, hb8⟩
      go_wp2_with fail
      go_ret
      exact ⟨rfl, below_chain hb8 hbg⟩
end Go.Proofs.Ytdkcjfcjckpjcaa
