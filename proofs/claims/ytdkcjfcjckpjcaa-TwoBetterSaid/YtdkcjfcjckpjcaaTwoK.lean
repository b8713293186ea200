/- two: the law TwoBetter, called. -/
import Derived.Test.YtdkcjfcjckpjcaaTwoI
import Derived.Test.YtdkcjfcjckpjcaaTwoJ
import Derived.Deep.Cut
namespace Go.Proofs.Ytdkcjfcjckpjcaa
open Go Go.RowKit Go.Deep

theorem chg6 {w : World} {g : Nat} (a0 a1 a2 a3 a4 a5 : Value) : Chg (· = g) w ((((((w.setCell ⟨g, 0, none⟩ a0).setCell ⟨g, 1, none⟩ a1).setCell ⟨g, 2, none⟩ a2).setCell ⟨g, 3, none⟩ a3).setCell ⟨g, 4, none⟩ a4).setCell ⟨g, 5, none⟩ a5) :=
  (((((((Chg.refl (fun x => x = g) w).setCell (p := ⟨g, 0, none⟩) (fun _ => rfl) a0).setCell (p := ⟨g, 1, none⟩) (fun _ => rfl) a1).setCell (p := ⟨g, 2, none⟩) (fun _ => rfl) a2).setCell (p := ⟨g, 3, none⟩) (fun _ => rfl) a3).setCell (p := ⟨g, 4, none⟩) (fun _ => rfl) a4).setCell (p := ⟨g, 5, none⟩) (fun _ => rfl) a5)
theorem LoadAt.set6 {w : World} {g b gw : Nat} {M : LM} {cs : Array Value} {a0 a1 a2 a3 a4 a5 : Value} (h : LoadAt w g b M) (hB : Blk w gw 106 cs) :
    LoadAt ((((((w.setCell ⟨gw, 0, none⟩ a0).setCell ⟨gw, 1, none⟩ a1).setCell ⟨gw, 2, none⟩ a2).setCell ⟨gw, 3, none⟩ a3).setCell ⟨gw, 4, none⟩ a4).setCell ⟨gw, 5, none⟩ a5) g b M := by
  refine ⟨h.1.chg (chg6 a0 a1 a2 a3 a4 a5) (Blk.ne_ h.1 hB (by decide)), h.2.chg (chg6 a0 a1 a2 a3 a4 a5) ?_⟩
  rintro rfl
  obtain ⟨es, clock, hh, _⟩ := h.2
  unfold Blk at hB
  rw [hB] at hh
  cases hh

set_option maxRecDepth 100000 in
set_option maxHeartbeats 40000000 in
theorem twoBetter_calls (l : List Bk) (A : Option Addr) (c : Nat) (ns : List Stp) (B : Option Addr) (d : Nat) (x y : Nat) (w : World) (hr : Reads w w.heap.size 6 A l.length (l.flatMap Bk.cells)) (hl : l.length ≤ 9223372036854775807)
    (hn : Reads w w.heap.size 3 B ns.length (ns.flatMap Stp.cells)) (hnl : ns.length ≤ 9223372036854775807) (hnw : ∀ s ∈ ns, stpWf s)
    (hx : x < 18446744073709551616) (hy : y < 18446744073709551616) :
    Calls Try.prog 13 #[.slice A l.length c, .slice B ns.length d, .int .u64 x, .int .u64 y] w fun e w' => e = .returned (.bool true) ∧ Below w.heap.size w w' := by
  have R := Lib.hid (law28_right l A c w hr hl)
  go_enter Try.func13, Try.ntmps13
  go_wp2_with fail
  refine R.out.mono ?_
  rintro e w0 ⟨r, n0, rfl, rfl, hR⟩
  have hb0 : Below w.heap.size w (w.drewN n0) := (by repeat (first | exact Below.refl _ _ | assumption | refine below_alloc ?_ _ | refine below_chain (by assumption) ?_ | refine below_call2 (by assumption) ?_ (by first | omega | (simp; done) | (simp; omega) | (simp [World.setCell]; omega)) | refine below_drewN ?_ _ | refine Below.drew ?_ | refine Below.alloc ?_ (by first | omega | (simp; done) | (simp; omega) | (simp [World.setCell]; omega)) _ | refine Below.setCell ?_ (by first | omega | (simp; done) | (simp; omega) | (simp [World.setCell]; omega)) _))
  clear R
  cases r
  · clear hR
    go_wp2_with (go_at_call 77; (with_reducible refine (awake28 _).mono ?_); rintro e w1 ⟨rfl, hb1⟩)
    go_ret
    exact ⟨rfl, below_chain hb1 hb0⟩
  have hL := hR (by trivial)
  clear hR
  by_cases h20 : 20 < ns.length
  · have e20 : decide ((20 : Int) < (ns.length : Int)) = true := by simp; omega
    clear hL
    go_wp2_with (go_at_call 77; (with_reducible refine (awake28 _).mono ?_); rintro e w1 ⟨rfl, hb1⟩)
    go_ret
    exact ⟨rfl, below_chain hb1 hb0⟩
  have e20 : decide ((20 : Int) < (ns.length : Int)) = false := by simp; omega
  have N := Lib.hid load_new
  have hl12 := hL.1
  replace hL := Lib.hid hL
  replace hnw := Lib.hid hnw
  go_wp2_with fail
  refine (N.out _).mono ?_
  rintro e w1 ⟨g, b, rfl, hLd, hg0, hb0', hb1⟩
  have hbA := below_chain hb1 hb0
  have hgw : w.heap.size ≤ g := hg0
  have hbw : w.heap.size ≤ b := hb0'
  clear hb1 hb0 N hg0 hb0' e20
  go_wp2_with fail
  go_loopw [10] (fun i wr => ∃ k : Nat, k ≤ ns.length ∧ i = .int .i64 (k : Nat) ∧ LoadAt wr g b (lmRun (ns.take k)) ∧ Below w.heap.size w wr) (fun i _ => ns.length - (intOf i).toNat)
  case atStart => exact ⟨0, by omega, rfl, hLd, hbA⟩
  case round =>
    obtain ⟨k, hk, rfl, hA, hb⟩ := hrel
    by_cases hlt : k < ns.length
    · have hlti : (k : Int) < (ns.length : Int) := by omega
      obtain ⟨ad, s, rfl, hbl, hs, c0, c1, c2⟩ := stp_at hn hlt
      have hstep := lmRun_succ ns k s hs
      obtain ⟨f1, f2, f3⟩ := lmRun_facts (ns.take k)
      have f4 : (ns.take k).length ≤ k := List.length_take_le _ _
      have hsw := hnw.out s (List.mem_of_getElem? hs)
      generalize lmRun (ns.take k) = M at *
      obtain ⟨s0, si, sn⟩ := s
      dsimp only at *
      have e1 := (hb.cell (p := ⟨(ad.add (k * 3)).block, (ad.add (k * 3)).off + 1, none⟩) (by rw [block_of_add]; exact hbl)).trans c1
      have e2 := (hb.cell (p := ⟨(ad.add (k * 3)).block, (ad.add (k * 3)).off + 2, none⟩) (by rw [block_of_add]; exact hbl)).trans c2
      have hzr := hb.size
      have hMl : M.length ≤ 100000 := by omega
      replace hs := Lib.hid hs
      replace hstep := Lib.hid hstep
      clear hLd hbA hr hl hn hnl hl12 c0 c1 c2
      go_wp2_with fail
      refine wp_region_still_tail 11 (by kernel_rfl) (by kernel_rfl) ?_
      simp only [List.take_succ_cons, List.take_zero, List.drop_succ_cons, List.drop_zero]
      repeat still_step
      refine wpStill_nil ?_
      change wpList _ _ _ _ _ wr.drew
      have hA1 : LoadAt wr.drew g b M := hA
      have hb1 : Below w.heap.size w wr.drew := hb.drew
      clear hA hb e1 e2
      generalize wr.drew = w2 at *
      go_wp2_with fail
      refine (load_add g b M si sn w2 hA1 hsw f1 (by omega)).mono ?_
      rintro e w3 ⟨rfl, hA2, hc2⟩
      have hb2 := below_chg hb1 hc2 (fun b' hb' e => by omega) hb1.size
      go_wp2_with fail
      go_roundw
      case rel => exact ⟨k + 1, by omega, by go_num, by rw [hstep.out]; exact hA2, hb2⟩
      case measure => simp [intOf]; omega
    · obtain rfl : k = ns.length := by omega
      have hlti : ¬ (ns.length : Int) < (ns.length : Int) := by omega
      rw [List.take_length] at hA
      obtain ⟨f1, f2, f3⟩ := lmRun_facts ns
      have hwf := Lib.hid (bkLaw_wf hL.out)
      have K1 := fun W hr => two_draw 0 l A c x W hx hr (by omega)
      have K2 := fun W hr => two_draw 0 l A c y W hy hr (by omega)
      have K3 := fun W hr h => two_pick 0 l A c g b (lmRun ns) x y W hr (by omega) hx hy h hwf.out
      have K4 := fun W hr h => two_pick 0 l A c g b (lmRun ns) y x W hr (by omega) hy hx h hwf.out
      have K5 := fun id W hr => elig_has 0 l A c id W hr (by omega)
      by_cases h0 : l.length = 0
      · have e0 : ((l.length : Int) == 0) = true := by rw [h0]; rfl
        have d1 : ∀ z : Nat, drawB l z = bk0 := fun z => by unfold drawB; rw [if_pos h0]
        have d2 : ∀ zs, drawnL l zs = [] := fun zs => by unfold drawnL; rw [if_pos h0]
        have d3 : drawOk l = false := by simp [drawOk, h0]
        rw [d1, d3] at K1 K2
        rw [d2] at K3 K4
        have d4 : (foldB (lmRun ns) []).id = 0 := rfl
        have d5 : decide (0 < ([] : List Bk).length) = false := rfl
        have d6 : bk0.val = .agg #[.int .i64 0, .int .i64 0, .int .i64 0, .bool false, .int .u64 0, .int .u64 0] := rfl
        rw [d4, d5] at K3 K4
        rw [d6] at K1 K2
        replace K1 := Lib.hid K1
        replace K2 := Lib.hid K2
        replace K3 := Lib.hid K3
        replace K4 := Lib.hid K4
        have hRl2 := Lib.hid fun (W : World) (h : Below w.heap.size w W) => (show Reads W W.heap.size 6 A l.length (l.flatMap Bk.cells) from (hr.below h).more h.size)
        clear hr hn hLd hbA hwf hlt hk hlti hl hnl h20 hL hnw hl12 K5 h0 d1 d2 d3 d4 d5 d6 f1 f2 f3
        have hA1 := hA.alloc (.cells #[.int .i64 0, .slice A l.length c] 102)
        have hb1 := below_alloc hb (.cells #[.int .i64 0, .slice A l.length c] 102)
        have B1 := Blk.new wr 102 #[.int .i64 0, .slice A l.length c]
        go_wp2_with fail
        clear hA hb
        refine (K1.out _ (hRl2.out _ hb1)).mono ?_
        rintro e w2 ⟨rfl, hb2⟩
        have C1 := (B1.call hb2).alloc (.cells #[.int .i64 0, .int .i64 0, .int .i64 0, .bool false, .int .u64 0, .int .u64 0] 106)
        have hA2 := (hA1.call hb2).alloc (.cells #[.int .i64 0, .int .i64 0, .int .i64 0, .bool false, .int .u64 0, .int .u64 0] 106)
        have hbb := below_alloc (below_chain hb2 hb1) (.cells #[.int .i64 0, .int .i64 0, .int .i64 0, .bool false, .int .u64 0, .int .u64 0] 106)
        clear hA1 B1 hb1 hb2
        have s0 := C1.cell 0
        have s1 := C1.cell 1
        simp only [List.getElem?_toArray, List.getElem?_cons_zero, List.getElem?_cons_succ] at s0 s1
        go_wp2_with fail
        refine (K2.out _ (hRl2.out _ hbb)).mono ?_
        rintro e w3 ⟨rfl, hb3⟩
        have D1 := (C1.call hb3).alloc (.cells #[.int .i64 0, .int .i64 0, .int .i64 0, .bool false, .int .u64 0, .int .u64 0] 106)
        have hA3 := (hA2.call hb3).alloc (.cells #[.int .i64 0, .int .i64 0, .int .i64 0, .bool false, .int .u64 0, .int .u64 0] 106)
        have hbc := below_alloc (below_chain hb3 hbb) (.cells #[.int .i64 0, .int .i64 0, .int .i64 0, .bool false, .int .u64 0, .int .u64 0] 106)
        clear hA2 C1 hbb hb3 s0 s1
        have s0 := D1.cell 0
        have s1 := D1.cell 1
        simp only [List.getElem?_toArray, List.getElem?_cons_zero, List.getElem?_cons_succ] at s0 s1
        go_wp2_with fail
        refine (K3.out _ (hRl2.out _ hbc) hA3).mono ?_
        rintro e w4 ⟨rfl, hb4⟩
        have E1 := D1.call hb4
        have hA4 := hA3.call hb4
        have hbd := below_chain hb4 hbc
        clear hA3 D1 hbc hb4 s0 s1
        have s0 := E1.cell 0
        have s1 := E1.cell 1
        simp only [List.getElem?_toArray, List.getElem?_cons_zero, List.getElem?_cons_succ] at s0 s1
        go_wp2_with fail
        refine (K4.out _ (hRl2.out _ hbd) hA4).mono ?_
        rintro e w5 ⟨rfl, hb5⟩
        have hbe := below_chain hb5 hbd
        clear hA4 E1 hbd hb5 s0 s1 K1 K2 K3 K4
        go_wp2_with (go_at_call 77; (with_reducible refine (awake28 _).mono ?_); rintro e w6 ⟨rfl, hb6⟩)
        go_ret
        exact ⟨rfl, below_chain hb6 hbe⟩
      · have e0 : ((l.length : Int) == 0) = false := by rw [beq_eq_false_iff_ne]; omega
        have m1 := drawB_mem hx h0 (by omega)
        have m2 := drawB_mem hy h0 (by omega)
        obtain ⟨p1, p2, p3, p4⟩ := better_law f1 hL.out m1 m2
        have q1 : foldB (lmRun ns) (drawnL l [(x : Int), (y : Int)]) = betterB (lmRun ns) (drawB l x) (drawB l y) := by unfold drawnL; rw [if_neg h0]; rfl
        have q2 : foldB (lmRun ns) (drawnL l [(y : Int), (x : Int)]) = betterB (lmRun ns) (drawB l y) (drawB l x) := by unfold drawnL; rw [if_neg h0]; rfl
        have q3 : decide (0 < (drawnL l [(x : Int), (y : Int)]).length) = true := by unfold drawnL; rw [if_neg h0]; rfl
        have q4 : decide (0 < (drawnL l [(y : Int), (x : Int)]).length) = true := by unfold drawnL; rw [if_neg h0]; rfl
        have q5 : drawOk l = true := by simp [drawOk, h0]
        have q6 : ∀ b ∈ l, hasB l b.id = true := fun b hb => by unfold hasB; rw [List.any_eq_true]; exact ⟨b, hb, by simp⟩
        have q7 := q6 _ m1
        have q8 := q6 _ m2
        rw [q5] at K1 K2
        rw [q1, q3] at K3
        rw [q2, q4, ← p1] at K4
        have wf1 := hwf.out _ m1
        have wf2 := hwf.out _ m2
        have G := fun (i : Int) hi W h => load_get g b (lmRun ns) i W h hi
        have LE := fun a1 a2 a3 a4 a5 a6 W => less_any a1 a2 a3 a4 a5 a6 W
        unfold lessBk at p3 p4
        clear p1 q1 q2 q3 q4 q5 q6 m1 m2 f1 f2 f3
        generalize drawB l x = y1 at *
        generalize drawB l y = y2 at *
        obtain ⟨z, hz⟩ : ∃ z, (betterB (lmRun ns) y1 y2).id = z := ⟨_, rfl⟩
        rw [hz] at K3 K4 p2 p3 p4
        clear hz
        have q9 : hasB l z = true := by rcases p2 with h | h <;> rw [h] <;> assumption
        obtain ⟨ai, aw, ast, av, ah, ao⟩ := y1
        obtain ⟨bi, bw, bs, bv, bh, bo⟩ := y2
        unfold Bk.val at K1 K2
        unfold bkWf at wf1 wf2
        dsimp only at *
        have K5z := K5 z
        rw [q9] at K5z
        replace K1 := Lib.hid K1
        replace K2 := Lib.hid K2
        replace K3 := Lib.hid K3
        replace K4 := Lib.hid K4
        replace K5z := Lib.hid K5z
        replace p2 := Lib.hid p2
        replace p3 := Lib.hid p3
        replace p4 := Lib.hid p4
        replace G := Lib.hid G
        replace LE := Lib.hid LE
        have hRl2 := Lib.hid fun (W : World) (h : Below w.heap.size w W) => (show Reads W W.heap.size 6 A l.length (l.flatMap Bk.cells) from (hr.below h).more h.size)
        clear hr hn hLd hbA hwf hlt hk hlti hl hnl h20 hL hnw hl12 K5 q7 q8 q9 h0
        have hA1 := hA.alloc (.cells #[.int .i64 0, .slice A l.length c] 102)
        have B1 := Blk.new wr 102 #[.int .i64 0, .slice A l.length c]
        have hb1 := below_alloc hb (.cells #[.int .i64 0, .slice A l.length c] 102)
        go_wp2_with fail
        clear hA hb
        refine (K1.out _ (hRl2.out _ hb1)).mono ?_
        rintro e w2 ⟨rfl, hb2⟩
        have C1 := (B1.call hb2).alloc (.cells #[.int .i64 ai, .int .i64 aw, .int .i64 ast, .bool av, .int .u64 ah, .int .u64 ao] 106)
        have C2 := Blk.new w2 106 #[.int .i64 ai, .int .i64 aw, .int .i64 ast, .bool av, .int .u64 ah, .int .u64 ao]
        have hA2 := (hA1.call hb2).alloc (.cells #[.int .i64 ai, .int .i64 aw, .int .i64 ast, .bool av, .int .u64 ah, .int .u64 ao] 106)
        have hbb := below_alloc (below_chain hb2 hb1) (.cells #[.int .i64 ai, .int .i64 aw, .int .i64 ast, .bool av, .int .u64 ah, .int .u64 ao] 106)
        clear hA1 B1 hb1 hb2
        have s0 := C1.cell 0
        have s1 := C1.cell 1
        simp only [List.getElem?_toArray, List.getElem?_cons_zero, List.getElem?_cons_succ] at s0 s1
        go_wp2_with fail
        refine (K2.out _ (hRl2.out _ hbb)).mono ?_
        rintro e w3 ⟨rfl, hb3⟩
        have D1 := (C1.call hb3).alloc (.cells #[.int .i64 bi, .int .i64 bw, .int .i64 bs, .bool bv, .int .u64 bh, .int .u64 bo] 106)
        have D2 := (C2.call hb3).alloc (.cells #[.int .i64 bi, .int .i64 bw, .int .i64 bs, .bool bv, .int .u64 bh, .int .u64 bo] 106)
        have D3 := Blk.new w3 106 #[.int .i64 bi, .int .i64 bw, .int .i64 bs, .bool bv, .int .u64 bh, .int .u64 bo]
        have hA3 := (hA2.call hb3).alloc (.cells #[.int .i64 bi, .int .i64 bw, .int .i64 bs, .bool bv, .int .u64 bh, .int .u64 bo] 106)
        have hbc := below_alloc (below_chain hb3 hbb) (.cells #[.int .i64 bi, .int .i64 bw, .int .i64 bs, .bool bv, .int .u64 bh, .int .u64 bo] 106)
        clear hA2 C1 C2 hbb hb3 s0 s1
        have s0 := D1.cell 0
        have s1 := D1.cell 1
        simp only [List.getElem?_toArray, List.getElem?_cons_zero, List.getElem?_cons_succ] at s0 s1
        go_wp2_with fail
        refine (K3.out _ (hRl2.out _ hbc) hA3).mono ?_
        rintro e w4 ⟨rfl, hb4⟩
        have E1 := D1.call hb4
        have E2 := D2.call hb4
        have E3 := D3.call hb4
        have hA4 := hA3.call hb4
        have hbd := below_chain hb4 hbc
        clear hA3 D1 D2 D3 hbc hb4 s0 s1
        have s0 := E1.cell 0
        have s1 := E1.cell 1
        simp only [List.getElem?_toArray, List.getElem?_cons_zero, List.getElem?_cons_succ] at s0 s1
        go_wp2_with fail
        refine (K4.out _ (hRl2.out _ hbd) hA4).mono ?_
        rintro e w5 ⟨rfl, hb5⟩
        have F1 := E1.call hb5
        have F2 := E2.call hb5
        have F3 := E3.call hb5
        have hA5 := hA4.call hb5
        have hbe := below_chain hb5 hbd
        clear hA4 E1 E2 E3 hbd hb5 s0 s1
        have s0 := F1.cell 0
        have s1 := F1.cell 1
        simp only [List.getElem?_toArray, List.getElem?_cons_zero, List.getElem?_cons_succ] at s0 s1
        obtain ⟨⟨t0, t1, t2, t3, t4, t5⟩, -⟩ := F2.six
        obtain ⟨⟨v0, v1, v2, v3, v4, v5⟩, -⟩ := F3.six
        have hHas := Lib.hid (K5z.out _ (hRl2.out _ hbe))
        clear K1 K2 K3 K4 K5z
        have hz : ∃ u v : Bool, (z != ai) = u ∧ (z != bi) = v ∧ (u && v) = false := ⟨_, _, rfl, rfl, by rcases p2.out with h | h <;> subst h <;> simp⟩
        obtain ⟨u, v, hu, hv, huv⟩ := hz
        cases u
        · clear hv huv
          go_wp2_with fail
          refine hHas.out.mono ?_
          rintro e w6 ⟨rfl, hb6⟩
          have G2 := F2.call hb6
          have G3 := F3.call hb6
          have hA6 := hA5.call hb6
          have hbf := below_chain hb6 hbe
          clear hHas F1 F2 F3 hbe hb6 hA5 s0 s1 t0 t1 t2 t3 t4 t5 v0 v1 v2 v3 v4 v5 hRl2
          obtain ⟨⟨t0, t1, t2, t3, t4, t5⟩, -⟩ := G2.six
          obtain ⟨⟨v0, v1, v2, v3, v4, v5⟩, -⟩ := G3.six
          have n2 := G2.lt
          have n3 := G3.lt
          go_wp2_with fail
          go_region
          · have Pw : Blk ((w6.alloc (.cells #[.int .i64 ai, .int .i64 aw, .int .i64 ast, .bool av, .int .u64 ah, .int .u64 ao] 106)).alloc (.cells #[.int .i64 bi, .int .i64 bw, .int .i64 bs, .bool bv, .int .u64 bh, .int .u64 bo] 106)) w6.heap.size 106 #[.int .i64 ai, .int .i64 aw, .int .i64 ast, .bool av, .int .u64 ah, .int .u64 ao] := (Blk.new w6 _ _).alloc _
            have Po : Blk ((w6.alloc (.cells #[.int .i64 ai, .int .i64 aw, .int .i64 ast, .bool av, .int .u64 ah, .int .u64 ao] 106)).alloc (.cells #[.int .i64 bi, .int .i64 bw, .int .i64 bs, .bool bv, .int .u64 bh, .int .u64 bo] 106)) (w6.heap.size + 1) 106 #[.int .i64 bi, .int .i64 bw, .int .i64 bs, .bool bv, .int .u64 bh, .int .u64 bo] := by have hn := Blk.new (w6.alloc (.cells #[.int .i64 ai, .int .i64 aw, .int .i64 ast, .bool av, .int .u64 ah, .int .u64 ao] 106)) 106 #[.int .i64 bi, .int .i64 bw, .int .i64 bs, .bool bv, .int .u64 bh, .int .u64 bo]; simp only [World.size_alloc] at hn; exact hn
            have Pc : Blk ((w6.alloc (.cells #[.int .i64 ai, .int .i64 aw, .int .i64 ast, .bool av, .int .u64 ah, .int .u64 ao] 106)).alloc (.cells #[.int .i64 bi, .int .i64 bw, .int .i64 bs, .bool bv, .int .u64 bh, .int .u64 bo] 106)) w2.heap.size 106 #[.int .i64 ai, .int .i64 aw, .int .i64 ast, .bool av, .int .u64 ah, .int .u64 ao] := (G2.alloc _).alloc _
            have Pd : Blk ((w6.alloc (.cells #[.int .i64 ai, .int .i64 aw, .int .i64 ast, .bool av, .int .u64 ah, .int .u64 ao] 106)).alloc (.cells #[.int .i64 bi, .int .i64 bw, .int .i64 bs, .bool bv, .int .u64 bh, .int .u64 bo] 106)) w3.heap.size 106 #[.int .i64 bi, .int .i64 bw, .int .i64 bs, .bool bv, .int .u64 bh, .int .u64 bo] := (G3.alloc _).alloc _
            have hA7 : LoadAt (((w6.alloc (.cells #[.int .i64 ai, .int .i64 aw, .int .i64 ast, .bool av, .int .u64 ah, .int .u64 ao] 106)).alloc (.cells #[.int .i64 bi, .int .i64 bw, .int .i64 bs, .bool bv, .int .u64 bh, .int .u64 bo] 106)).drew) g b (lmRun ns) := (hA6.alloc _).alloc _
            have hb7 : Below w.heap.size w (((w6.alloc (.cells #[.int .i64 ai, .int .i64 aw, .int .i64 ast, .bool av, .int .u64 ah, .int .u64 ao] 106)).alloc (.cells #[.int .i64 bi, .int .i64 bw, .int .i64 bs, .bool bv, .int .u64 bh, .int .u64 bo] 106)).drew) := (below_alloc (below_alloc hbf _) _).drew
            have Pw : Blk (((w6.alloc (.cells #[.int .i64 ai, .int .i64 aw, .int .i64 ast, .bool av, .int .u64 ah, .int .u64 ao] 106)).alloc (.cells #[.int .i64 bi, .int .i64 bw, .int .i64 bs, .bool bv, .int .u64 bh, .int .u64 bo] 106)).drew) _ 106 #[.int .i64 ai, .int .i64 aw, .int .i64 ast, .bool av, .int .u64 ah, .int .u64 ao] := Pw
            have Po : Blk (((w6.alloc (.cells #[.int .i64 ai, .int .i64 aw, .int .i64 ast, .bool av, .int .u64 ah, .int .u64 ao] 106)).alloc (.cells #[.int .i64 bi, .int .i64 bw, .int .i64 bs, .bool bv, .int .u64 bh, .int .u64 bo] 106)).drew) _ 106 #[.int .i64 bi, .int .i64 bw, .int .i64 bs, .bool bv, .int .u64 bh, .int .u64 bo] := Po
            have Pc : Blk (((w6.alloc (.cells #[.int .i64 ai, .int .i64 aw, .int .i64 ast, .bool av, .int .u64 ah, .int .u64 ao] 106)).alloc (.cells #[.int .i64 bi, .int .i64 bw, .int .i64 bs, .bool bv, .int .u64 bh, .int .u64 bo] 106)).drew) _ 106 #[.int .i64 ai, .int .i64 aw, .int .i64 ast, .bool av, .int .u64 ah, .int .u64 ao] := Pc
            have Pd : Blk (((w6.alloc (.cells #[.int .i64 ai, .int .i64 aw, .int .i64 ast, .bool av, .int .u64 ah, .int .u64 ao] 106)).alloc (.cells #[.int .i64 bi, .int .i64 bw, .int .i64 bs, .bool bv, .int .u64 bh, .int .u64 bo] 106)).drew) _ 106 #[.int .i64 bi, .int .i64 bw, .int .i64 bs, .bool bv, .int .u64 bh, .int .u64 bo] := Pd
            have hz6 := hbf.size
            obtain ⟨gw, hgwE⟩ : ∃ gw, w6.heap.size = gw := ⟨_, rfl⟩
            obtain ⟨go, hgoE⟩ : ∃ go, w6.heap.size + 1 = go := ⟨_, rfl⟩
            have hgoN : w.heap.size ≤ go := by omega
            have hgwN : w.heap.size ≤ gw := by omega
            have hne : gw ≠ go := by omega
            have hn2w : w2.heap.size ≠ gw := by omega
            have hn3w : w3.heap.size ≠ gw := by omega
            have hn2o : w2.heap.size ≠ go := by omega
            rw [hgwE] at Pw
            rw [hgoE] at Po
            rw [hgoE]
            rw [hgwE]
            generalize ((w6.alloc (.cells #[.int .i64 ai, .int .i64 aw, .int .i64 ast, .bool av, .int .u64 ah, .int .u64 ao] 106)).alloc (.cells #[.int .i64 bi, .int .i64 bw, .int .i64 bs, .bool bv, .int .u64 bh, .int .u64 bo] 106)).drew = w7 at *
            clear G2 G3 hA6 hbf t0 t1 t2 t3 t4 t5 v0 v1 v2 v3 v4 v5 n2 n3 hgoE hgwE hz6
            by_cases hzb : z = bi
            · have ez : (z == bi) = true := by simpa using hzb
              have pf := Lib.hid (p3.out hzb)
              replace hzb := Lib.hid hzb
              obtain ⟨⟨a0, a1, a2, a3, a4, a5⟩, qa0, qa1, qa2, qa3, qa4, qa5⟩ := Pw.six
              obtain ⟨⟨v0, v1, v2, v3, v4, v5⟩, -⟩ := Pd.six
              clear Pd
              replace Pw := Lib.hid Pw
              replace Po := Lib.hid Po
              replace Pc := Lib.hid Pc
              go_upto_region 20 with (fail)
              have Qw : Blk (((((((w7).setCell ⟨gw, 0, none⟩ (.int .i64 bi)).setCell ⟨gw, 1, none⟩ (.int .i64 bw)).setCell ⟨gw, 2, none⟩ (.int .i64 bs)).setCell ⟨gw, 3, none⟩ (.bool bv)).setCell ⟨gw, 4, none⟩ (.int .u64 bh)).setCell ⟨gw, 5, none⟩ (.int .u64 bo)) gw 106 #[.int .i64 bi, .int .i64 bw, .int .i64 bs, .bool bv, .int .u64 bh, .int .u64 bo] := blk_set6 Pw.out
              have Qo : Blk (((((((w7).setCell ⟨gw, 0, none⟩ (.int .i64 bi)).setCell ⟨gw, 1, none⟩ (.int .i64 bw)).setCell ⟨gw, 2, none⟩ (.int .i64 bs)).setCell ⟨gw, 3, none⟩ (.bool bv)).setCell ⟨gw, 4, none⟩ (.int .u64 bh)).setCell ⟨gw, 5, none⟩ (.int .u64 bo)) go 106 #[.int .i64 bi, .int .i64 bw, .int .i64 bs, .bool bv, .int .u64 bh, .int .u64 bo] := blk_far6 Po.out (by omega)
              have Qc : Blk (((((((w7).setCell ⟨gw, 0, none⟩ (.int .i64 bi)).setCell ⟨gw, 1, none⟩ (.int .i64 bw)).setCell ⟨gw, 2, none⟩ (.int .i64 bs)).setCell ⟨gw, 3, none⟩ (.bool bv)).setCell ⟨gw, 4, none⟩ (.int .u64 bh)).setCell ⟨gw, 5, none⟩ (.int .u64 bo)) w2.heap.size 106 #[.int .i64 ai, .int .i64 aw, .int .i64 ast, .bool av, .int .u64 ah, .int .u64 ao] := blk_far6 Pc.out hn2w
              have hAq : LoadAt (((((((w7).setCell ⟨gw, 0, none⟩ (.int .i64 bi)).setCell ⟨gw, 1, none⟩ (.int .i64 bw)).setCell ⟨gw, 2, none⟩ (.int .i64 bs)).setCell ⟨gw, 3, none⟩ (.bool bv)).setCell ⟨gw, 4, none⟩ (.int .u64 bh)).setCell ⟨gw, 5, none⟩ (.int .u64 bo)) g b (lmRun ns) := hA7.set6 Pw.out
              have hbq : Below w.heap.size w (((((((w7).setCell ⟨gw, 0, none⟩ (.int .i64 bi)).setCell ⟨gw, 1, none⟩ (.int .i64 bw)).setCell ⟨gw, 2, none⟩ (.int .i64 bs)).setCell ⟨gw, 3, none⟩ (.bool bv)).setCell ⟨gw, 4, none⟩ (.int .u64 bh)).setCell ⟨gw, 5, none⟩ (.int .u64 bo)) := set6 hb7 hgwN
              clear Pw Po Pc hA7 hb7 a0 a1 a2 a3 a4 a5 qa0 qa1 qa2 qa3 qa4 qa5 v0 v1 v2 v3 v4 v5
              generalize (((((((w7).setCell ⟨gw, 0, none⟩ (.int .i64 bi)).setCell ⟨gw, 1, none⟩ (.int .i64 bw)).setCell ⟨gw, 2, none⟩ (.int .i64 bs)).setCell ⟨gw, 3, none⟩ (.bool bv)).setCell ⟨gw, 4, none⟩ (.int .u64 bh)).setCell ⟨gw, 5, none⟩ (.int .u64 bo)) = wq at *
              obtain ⟨⟨a0, a1, a2, a3, a4, a5⟩, qa0, qa1, qa2, qa3, qa4, qa5⟩ := Qo.six
              obtain ⟨⟨v0, v1, v2, v3, v4, v5⟩, -⟩ := Qc.six
              clear Qc
              replace Qw := Lib.hid Qw
              replace Qo := Lib.hid Qo
              go_upto_region 21 with (fail)
              have Rw : Blk (((((((wq).setCell ⟨go, 0, none⟩ (.int .i64 ai)).setCell ⟨go, 1, none⟩ (.int .i64 aw)).setCell ⟨go, 2, none⟩ (.int .i64 ast)).setCell ⟨go, 3, none⟩ (.bool av)).setCell ⟨go, 4, none⟩ (.int .u64 ah)).setCell ⟨go, 5, none⟩ (.int .u64 ao)) gw 106 #[.int .i64 bi, .int .i64 bw, .int .i64 bs, .bool bv, .int .u64 bh, .int .u64 bo] := blk_far6 Qw.out (by omega)
              have Ro : Blk (((((((wq).setCell ⟨go, 0, none⟩ (.int .i64 ai)).setCell ⟨go, 1, none⟩ (.int .i64 aw)).setCell ⟨go, 2, none⟩ (.int .i64 ast)).setCell ⟨go, 3, none⟩ (.bool av)).setCell ⟨go, 4, none⟩ (.int .u64 ah)).setCell ⟨go, 5, none⟩ (.int .u64 ao)) go 106 #[.int .i64 ai, .int .i64 aw, .int .i64 ast, .bool av, .int .u64 ah, .int .u64 ao] := blk_set6 Qo.out
              have hA8 : LoadAt (((((((wq).setCell ⟨go, 0, none⟩ (.int .i64 ai)).setCell ⟨go, 1, none⟩ (.int .i64 aw)).setCell ⟨go, 2, none⟩ (.int .i64 ast)).setCell ⟨go, 3, none⟩ (.bool av)).setCell ⟨go, 4, none⟩ (.int .u64 ah)).setCell ⟨go, 5, none⟩ (.int .u64 ao)) g b (lmRun ns) := hAq.set6 Qo.out
              have hb8 : Below w.heap.size w (((((((wq).setCell ⟨go, 0, none⟩ (.int .i64 ai)).setCell ⟨go, 1, none⟩ (.int .i64 aw)).setCell ⟨go, 2, none⟩ (.int .i64 ast)).setCell ⟨go, 3, none⟩ (.bool av)).setCell ⟨go, 4, none⟩ (.int .u64 ah)).setCell ⟨go, 5, none⟩ (.int .u64 ao)) := set6 hbq hgoN
              clear Qw Qo hAq hbq a0 a1 a2 a3 a4 a5 qa0 qa1 qa2 qa3 qa4 qa5 v0 v1 v2 v3 v4 v5
              generalize (((((((wq).setCell ⟨go, 0, none⟩ (.int .i64 ai)).setCell ⟨go, 1, none⟩ (.int .i64 aw)).setCell ⟨go, 2, none⟩ (.int .i64 ast)).setCell ⟨go, 3, none⟩ (.bool av)).setCell ⟨go, 4, none⟩ (.int .u64 ah)).setCell ⟨go, 5, none⟩ (.int .u64 ao)) = w8 at *
              obtain ⟨⟨a0, a1, -⟩, -⟩ := Rw.six
              obtain ⟨⟨c0, c1, -⟩, -⟩ := Ro.six
              clear Rw Ro
              have HL := Lib.hid (LE.out (lmGet (lmRun ns) ai) aw ai (lmGet (lmRun ns) bi) bw bi)
              rw [pf.out] at HL
              have HG1 := Lib.hid fun (W : World) (R : Prop) (h : Below w8.heap.size w8 W ∧ R) => G.out ai wf1 W (hA8.call h.1)
              have HG2 := Lib.hid fun (W : World) (R : Prop) (h : Below w8.heap.size w8 W ∧ R) => G.out bi wf2 W (hA8.call h.1)
              generalize lmGet (lmRun ns) ai = ly at *
              generalize lmGet (lmRun ns) bi = lx at *
              clear G LE p2 p3 p4
              go_region_held3 (fun w' => Below w8.heap.size w8 w' ∧ w'.cell? ⟨gw, 0, none⟩ = some (.int .i64 bi) ∧ w'.cell? ⟨gw, 1, none⟩ = some (.int .i64 bw) ∧ w'.cell? ⟨go, 0, none⟩ = some (.int .i64 ai) ∧ w'.cell? ⟨go, 1, none⟩ = some (.int .i64 aw)) ((first | assumption | ((refine ⟨?_, ?_⟩; (first | assumption | exact (Below.refl _ _).drew | exact Below.refl _ _); go_keep)))) (first
                | (go_at_call 89; (with_reducible refine (HG1.out _ _ (by assumption)).mono ?_); rintro e w9 ⟨rfl, rfl⟩)
                | (go_at_call 89; (with_reducible refine (HG2.out _ _ (by assumption)).mono ?_); rintro e w9 ⟨rfl, rfl⟩)
                | (go_at_call 88; (with_reducible refine (HL.out _).mono ?_); rintro e w9 ⟨rfl, hb9⟩; have hS := hold4 (by assumption) hb9)
                | (go_at_call 77; (with_reducible refine (awake28 _).mono ?_); rintro e w9 ⟨rfl, hb9⟩; have hS := hold4 (by assumption) hb9))
              all_goals
                go_wp2_with fail
                go_ret
                exact ⟨rfl, below_chain (by exact hS.1) hb8⟩
            · have ez : (z == bi) = false := by simpa using hzb
              have pf := Lib.hid (p4.out hzb)
              replace hzb := Lib.hid hzb
              obtain ⟨⟨v0, -⟩, -⟩ := Pd.six
              obtain ⟨⟨a0, a1, -⟩, -⟩ := Pw.six
              obtain ⟨⟨c0, c1, -⟩, -⟩ := Po.six
              clear Pd Pc Pw Po
              go_upto_region 21 with (fail)
              have hA8 := hA7
              have hb8 := hb7
              clear hA7 hb7 v0
              generalize w7 = w8 at *
              have HL := Lib.hid (LE.out (lmGet (lmRun ns) bi) bw bi (lmGet (lmRun ns) ai) aw ai)
              rw [pf.out] at HL
              have HG1 := Lib.hid fun (W : World) (R : Prop) (h : Below w8.heap.size w8 W ∧ R) => G.out bi wf2 W (hA8.call h.1)
              have HG2 := Lib.hid fun (W : World) (R : Prop) (h : Below w8.heap.size w8 W ∧ R) => G.out ai wf1 W (hA8.call h.1)
              generalize lmGet (lmRun ns) bi = ly at *
              generalize lmGet (lmRun ns) ai = lx at *
              clear G LE p2 p3 p4
              go_region_held3 (fun w' => Below w8.heap.size w8 w' ∧ w'.cell? ⟨gw, 0, none⟩ = some (.int .i64 ai) ∧ w'.cell? ⟨gw, 1, none⟩ = some (.int .i64 aw) ∧ w'.cell? ⟨go, 0, none⟩ = some (.int .i64 bi) ∧ w'.cell? ⟨go, 1, none⟩ = some (.int .i64 bw)) ((first | assumption | ((refine ⟨?_, ?_⟩; (first | assumption | exact (Below.refl _ _).drew | exact Below.refl _ _); go_keep)))) (first
                | (go_at_call 89; (with_reducible refine (HG1.out _ _ (by assumption)).mono ?_); rintro e w9 ⟨rfl, rfl⟩)
                | (go_at_call 89; (with_reducible refine (HG2.out _ _ (by assumption)).mono ?_); rintro e w9 ⟨rfl, rfl⟩)
                | (go_at_call 88; (with_reducible refine (HL.out _).mono ?_); rintro e w9 ⟨rfl, hb9⟩; have hS := hold4 (by assumption) hb9)
                | (go_at_call 77; (with_reducible refine (awake28 _).mono ?_); rintro e w9 ⟨rfl, hb9⟩; have hS := hold4 (by assumption) hb9))
              all_goals
                go_wp2_with fail
                go_ret
                exact ⟨rfl, below_chain (by exact hS.1) hb8⟩
          · have Pw : Blk ((w6.alloc (.cells #[.int .i64 bi, .int .i64 bw, .int .i64 bs, .bool bv, .int .u64 bh, .int .u64 bo] 106)).alloc (.cells #[.int .i64 ai, .int .i64 aw, .int .i64 ast, .bool av, .int .u64 ah, .int .u64 ao] 106)) (w6.heap.size + 1) 106 #[.int .i64 ai, .int .i64 aw, .int .i64 ast, .bool av, .int .u64 ah, .int .u64 ao] := by have hn := Blk.new (w6.alloc (.cells #[.int .i64 bi, .int .i64 bw, .int .i64 bs, .bool bv, .int .u64 bh, .int .u64 bo] 106)) 106 #[.int .i64 ai, .int .i64 aw, .int .i64 ast, .bool av, .int .u64 ah, .int .u64 ao]; simp only [World.size_alloc] at hn; exact hn
            have Po : Blk ((w6.alloc (.cells #[.int .i64 bi, .int .i64 bw, .int .i64 bs, .bool bv, .int .u64 bh, .int .u64 bo] 106)).alloc (.cells #[.int .i64 ai, .int .i64 aw, .int .i64 ast, .bool av, .int .u64 ah, .int .u64 ao] 106)) w6.heap.size 106 #[.int .i64 bi, .int .i64 bw, .int .i64 bs, .bool bv, .int .u64 bh, .int .u64 bo] := (Blk.new w6 _ _).alloc _
            have Pc : Blk ((w6.alloc (.cells #[.int .i64 bi, .int .i64 bw, .int .i64 bs, .bool bv, .int .u64 bh, .int .u64 bo] 106)).alloc (.cells #[.int .i64 ai, .int .i64 aw, .int .i64 ast, .bool av, .int .u64 ah, .int .u64 ao] 106)) w2.heap.size 106 #[.int .i64 ai, .int .i64 aw, .int .i64 ast, .bool av, .int .u64 ah, .int .u64 ao] := (G2.alloc _).alloc _
            have Pd : Blk ((w6.alloc (.cells #[.int .i64 bi, .int .i64 bw, .int .i64 bs, .bool bv, .int .u64 bh, .int .u64 bo] 106)).alloc (.cells #[.int .i64 ai, .int .i64 aw, .int .i64 ast, .bool av, .int .u64 ah, .int .u64 ao] 106)) w3.heap.size 106 #[.int .i64 bi, .int .i64 bw, .int .i64 bs, .bool bv, .int .u64 bh, .int .u64 bo] := (G3.alloc _).alloc _
            have hA7 : LoadAt (((w6.alloc (.cells #[.int .i64 bi, .int .i64 bw, .int .i64 bs, .bool bv, .int .u64 bh, .int .u64 bo] 106)).alloc (.cells #[.int .i64 ai, .int .i64 aw, .int .i64 ast, .bool av, .int .u64 ah, .int .u64 ao] 106)).drew) g b (lmRun ns) := (hA6.alloc _).alloc _
            have hb7 : Below w.heap.size w (((w6.alloc (.cells #[.int .i64 bi, .int .i64 bw, .int .i64 bs, .bool bv, .int .u64 bh, .int .u64 bo] 106)).alloc (.cells #[.int .i64 ai, .int .i64 aw, .int .i64 ast, .bool av, .int .u64 ah, .int .u64 ao] 106)).drew) := (below_alloc (below_alloc hbf _) _).drew
            have Pw : Blk (((w6.alloc (.cells #[.int .i64 bi, .int .i64 bw, .int .i64 bs, .bool bv, .int .u64 bh, .int .u64 bo] 106)).alloc (.cells #[.int .i64 ai, .int .i64 aw, .int .i64 ast, .bool av, .int .u64 ah, .int .u64 ao] 106)).drew) _ 106 #[.int .i64 ai, .int .i64 aw, .int .i64 ast, .bool av, .int .u64 ah, .int .u64 ao] := Pw
            have Po : Blk (((w6.alloc (.cells #[.int .i64 bi, .int .i64 bw, .int .i64 bs, .bool bv, .int .u64 bh, .int .u64 bo] 106)).alloc (.cells #[.int .i64 ai, .int .i64 aw, .int .i64 ast, .bool av, .int .u64 ah, .int .u64 ao] 106)).drew) _ 106 #[.int .i64 bi, .int .i64 bw, .int .i64 bs, .bool bv, .int .u64 bh, .int .u64 bo] := Po
            have Pc : Blk (((w6.alloc (.cells #[.int .i64 bi, .int .i64 bw, .int .i64 bs, .bool bv, .int .u64 bh, .int .u64 bo] 106)).alloc (.cells #[.int .i64 ai, .int .i64 aw, .int .i64 ast, .bool av, .int .u64 ah, .int .u64 ao] 106)).drew) _ 106 #[.int .i64 ai, .int .i64 aw, .int .i64 ast, .bool av, .int .u64 ah, .int .u64 ao] := Pc
            have Pd : Blk (((w6.alloc (.cells #[.int .i64 bi, .int .i64 bw, .int .i64 bs, .bool bv, .int .u64 bh, .int .u64 bo] 106)).alloc (.cells #[.int .i64 ai, .int .i64 aw, .int .i64 ast, .bool av, .int .u64 ah, .int .u64 ao] 106)).drew) _ 106 #[.int .i64 bi, .int .i64 bw, .int .i64 bs, .bool bv, .int .u64 bh, .int .u64 bo] := Pd
            have hz6 := hbf.size
            obtain ⟨go, hgoE⟩ : ∃ go, w6.heap.size = go := ⟨_, rfl⟩
            obtain ⟨gw, hgwE⟩ : ∃ gw, w6.heap.size + 1 = gw := ⟨_, rfl⟩
            have hgoN : w.heap.size ≤ go := by omega
            have hgwN : w.heap.size ≤ gw := by omega
            have hne : gw ≠ go := by omega
            have hn2w : w2.heap.size ≠ gw := by omega
            have hn3w : w3.heap.size ≠ gw := by omega
            have hn2o : w2.heap.size ≠ go := by omega
            rw [hgwE] at Pw
            rw [hgoE] at Po
            rw [hgwE]
            rw [hgoE]
            generalize ((w6.alloc (.cells #[.int .i64 bi, .int .i64 bw, .int .i64 bs, .bool bv, .int .u64 bh, .int .u64 bo] 106)).alloc (.cells #[.int .i64 ai, .int .i64 aw, .int .i64 ast, .bool av, .int .u64 ah, .int .u64 ao] 106)).drew = w7 at *
            clear G2 G3 hA6 hbf t0 t1 t2 t3 t4 t5 v0 v1 v2 v3 v4 v5 n2 n3 hgoE hgwE hz6
            by_cases hzb : z = bi
            · have ez : (z == bi) = true := by simpa using hzb
              have pf := Lib.hid (p3.out hzb)
              replace hzb := Lib.hid hzb
              obtain ⟨⟨a0, a1, a2, a3, a4, a5⟩, qa0, qa1, qa2, qa3, qa4, qa5⟩ := Pw.six
              obtain ⟨⟨v0, v1, v2, v3, v4, v5⟩, -⟩ := Pd.six
              clear Pd
              replace Pw := Lib.hid Pw
              replace Po := Lib.hid Po
              replace Pc := Lib.hid Pc
              go_upto_region 20 with (fail)
              have Qw : Blk (((((((w7).setCell ⟨gw, 0, none⟩ (.int .i64 bi)).setCell ⟨gw, 1, none⟩ (.int .i64 bw)).setCell ⟨gw, 2, none⟩ (.int .i64 bs)).setCell ⟨gw, 3, none⟩ (.bool bv)).setCell ⟨gw, 4, none⟩ (.int .u64 bh)).setCell ⟨gw, 5, none⟩ (.int .u64 bo)) gw 106 #[.int .i64 bi, .int .i64 bw, .int .i64 bs, .bool bv, .int .u64 bh, .int .u64 bo] := blk_set6 Pw.out
              have Qo : Blk (((((((w7).setCell ⟨gw, 0, none⟩ (.int .i64 bi)).setCell ⟨gw, 1, none⟩ (.int .i64 bw)).setCell ⟨gw, 2, none⟩ (.int .i64 bs)).setCell ⟨gw, 3, none⟩ (.bool bv)).setCell ⟨gw, 4, none⟩ (.int .u64 bh)).setCell ⟨gw, 5, none⟩ (.int .u64 bo)) go 106 #[.int .i64 bi, .int .i64 bw, .int .i64 bs, .bool bv, .int .u64 bh, .int .u64 bo] := blk_far6 Po.out (by omega)
              have Qc : Blk (((((((w7).setCell ⟨gw, 0, none⟩ (.int .i64 bi)).setCell ⟨gw, 1, none⟩ (.int .i64 bw)).setCell ⟨gw, 2, none⟩ (.int .i64 bs)).setCell ⟨gw, 3, none⟩ (.bool bv)).setCell ⟨gw, 4, none⟩ (.int .u64 bh)).setCell ⟨gw, 5, none⟩ (.int .u64 bo)) w2.heap.size 106 #[.int .i64 ai, .int .i64 aw, .int .i64 ast, .bool av, .int .u64 ah, .int .u64 ao] := blk_far6 Pc.out hn2w
              have hAq : LoadAt (((((((w7).setCell ⟨gw, 0, none⟩ (.int .i64 bi)).setCell ⟨gw, 1, none⟩ (.int .i64 bw)).setCell ⟨gw, 2, none⟩ (.int .i64 bs)).setCell ⟨gw, 3, none⟩ (.bool bv)).setCell ⟨gw, 4, none⟩ (.int .u64 bh)).setCell ⟨gw, 5, none⟩ (.int .u64 bo)) g b (lmRun ns) := hA7.set6 Pw.out
              have hbq : Below w.heap.size w (((((((w7).setCell ⟨gw, 0, none⟩ (.int .i64 bi)).setCell ⟨gw, 1, none⟩ (.int .i64 bw)).setCell ⟨gw, 2, none⟩ (.int .i64 bs)).setCell ⟨gw, 3, none⟩ (.bool bv)).setCell ⟨gw, 4, none⟩ (.int .u64 bh)).setCell ⟨gw, 5, none⟩ (.int .u64 bo)) := set6 hb7 hgwN
              clear Pw Po Pc hA7 hb7 a0 a1 a2 a3 a4 a5 qa0 qa1 qa2 qa3 qa4 qa5 v0 v1 v2 v3 v4 v5
              generalize (((((((w7).setCell ⟨gw, 0, none⟩ (.int .i64 bi)).setCell ⟨gw, 1, none⟩ (.int .i64 bw)).setCell ⟨gw, 2, none⟩ (.int .i64 bs)).setCell ⟨gw, 3, none⟩ (.bool bv)).setCell ⟨gw, 4, none⟩ (.int .u64 bh)).setCell ⟨gw, 5, none⟩ (.int .u64 bo)) = wq at *
              obtain ⟨⟨a0, a1, a2, a3, a4, a5⟩, qa0, qa1, qa2, qa3, qa4, qa5⟩ := Qo.six
              obtain ⟨⟨v0, v1, v2, v3, v4, v5⟩, -⟩ := Qc.six
              clear Qc
              replace Qw := Lib.hid Qw
              replace Qo := Lib.hid Qo
              go_upto_region 21 with (fail)
              have Rw : Blk (((((((wq).setCell ⟨go, 0, none⟩ (.int .i64 ai)).setCell ⟨go, 1, none⟩ (.int .i64 aw)).setCell ⟨go, 2, none⟩ (.int .i64 ast)).setCell ⟨go, 3, none⟩ (.bool av)).setCell ⟨go, 4, none⟩ (.int .u64 ah)).setCell ⟨go, 5, none⟩ (.int .u64 ao)) gw 106 #[.int .i64 bi, .int .i64 bw, .int .i64 bs, .bool bv, .int .u64 bh, .int .u64 bo] := blk_far6 Qw.out (by omega)
              have Ro : Blk (((((((wq).setCell ⟨go, 0, none⟩ (.int .i64 ai)).setCell ⟨go, 1, none⟩ (.int .i64 aw)).setCell ⟨go, 2, none⟩ (.int .i64 ast)).setCell ⟨go, 3, none⟩ (.bool av)).setCell ⟨go, 4, none⟩ (.int .u64 ah)).setCell ⟨go, 5, none⟩ (.int .u64 ao)) go 106 #[.int .i64 ai, .int .i64 aw, .int .i64 ast, .bool av, .int .u64 ah, .int .u64 ao] := blk_set6 Qo.out
              have hA8 : LoadAt (((((((wq).setCell ⟨go, 0, none⟩ (.int .i64 ai)).setCell ⟨go, 1, none⟩ (.int .i64 aw)).setCell ⟨go, 2, none⟩ (.int .i64 ast)).setCell ⟨go, 3, none⟩ (.bool av)).setCell ⟨go, 4, none⟩ (.int .u64 ah)).setCell ⟨go, 5, none⟩ (.int .u64 ao)) g b (lmRun ns) := hAq.set6 Qo.out
              have hb8 : Below w.heap.size w (((((((wq).setCell ⟨go, 0, none⟩ (.int .i64 ai)).setCell ⟨go, 1, none⟩ (.int .i64 aw)).setCell ⟨go, 2, none⟩ (.int .i64 ast)).setCell ⟨go, 3, none⟩ (.bool av)).setCell ⟨go, 4, none⟩ (.int .u64 ah)).setCell ⟨go, 5, none⟩ (.int .u64 ao)) := set6 hbq hgoN
              clear Qw Qo hAq hbq a0 a1 a2 a3 a4 a5 qa0 qa1 qa2 qa3 qa4 qa5 v0 v1 v2 v3 v4 v5
              generalize (((((((wq).setCell ⟨go, 0, none⟩ (.int .i64 ai)).setCell ⟨go, 1, none⟩ (.int .i64 aw)).setCell ⟨go, 2, none⟩ (.int .i64 ast)).setCell ⟨go, 3, none⟩ (.bool av)).setCell ⟨go, 4, none⟩ (.int .u64 ah)).setCell ⟨go, 5, none⟩ (.int .u64 ao)) = w8 at *
              obtain ⟨⟨a0, a1, -⟩, -⟩ := Rw.six
              obtain ⟨⟨c0, c1, -⟩, -⟩ := Ro.six
              clear Rw Ro
              have HL := Lib.hid (LE.out (lmGet (lmRun ns) ai) aw ai (lmGet (lmRun ns) bi) bw bi)
              rw [pf.out] at HL
              have HG1 := Lib.hid fun (W : World) (R : Prop) (h : Below w8.heap.size w8 W ∧ R) => G.out ai wf1 W (hA8.call h.1)
              have HG2 := Lib.hid fun (W : World) (R : Prop) (h : Below w8.heap.size w8 W ∧ R) => G.out bi wf2 W (hA8.call h.1)
              generalize lmGet (lmRun ns) ai = ly at *
              generalize lmGet (lmRun ns) bi = lx at *
              clear G LE p2 p3 p4
              go_region_held3 (fun w' => Below w8.heap.size w8 w' ∧ w'.cell? ⟨gw, 0, none⟩ = some (.int .i64 bi) ∧ w'.cell? ⟨gw, 1, none⟩ = some (.int .i64 bw) ∧ w'.cell? ⟨go, 0, none⟩ = some (.int .i64 ai) ∧ w'.cell? ⟨go, 1, none⟩ = some (.int .i64 aw)) ((first | assumption | ((refine ⟨?_, ?_⟩; (first | assumption | exact (Below.refl _ _).drew | exact Below.refl _ _); go_keep)))) (first
                | (go_at_call 89; (with_reducible refine (HG1.out _ _ (by assumption)).mono ?_); rintro e w9 ⟨rfl, rfl⟩)
                | (go_at_call 89; (with_reducible refine (HG2.out _ _ (by assumption)).mono ?_); rintro e w9 ⟨rfl, rfl⟩)
                | (go_at_call 88; (with_reducible refine (HL.out _).mono ?_); rintro e w9 ⟨rfl, hb9⟩; have hS := hold4 (by assumption) hb9)
                | (go_at_call 77; (with_reducible refine (awake28 _).mono ?_); rintro e w9 ⟨rfl, hb9⟩; have hS := hold4 (by assumption) hb9))
              all_goals
                go_wp2_with fail
                go_ret
                exact ⟨rfl, below_chain (by exact hS.1) hb8⟩
            · have ez : (z == bi) = false := by simpa using hzb
              have pf := Lib.hid (p4.out hzb)
              replace hzb := Lib.hid hzb
              obtain ⟨⟨v0, -⟩, -⟩ := Pd.six
              obtain ⟨⟨a0, a1, -⟩, -⟩ := Pw.six
              obtain ⟨⟨c0, c1, -⟩, -⟩ := Po.six
              clear Pd Pc Pw Po
              go_upto_region 21 with (fail)
              have hA8 := hA7
              have hb8 := hb7
              clear hA7 hb7 v0
              generalize w7 = w8 at *
              have HL := Lib.hid (LE.out (lmGet (lmRun ns) bi) bw bi (lmGet (lmRun ns) ai) aw ai)
              rw [pf.out] at HL
              have HG1 := Lib.hid fun (W : World) (R : Prop) (h : Below w8.heap.size w8 W ∧ R) => G.out bi wf2 W (hA8.call h.1)
              have HG2 := Lib.hid fun (W : World) (R : Prop) (h : Below w8.heap.size w8 W ∧ R) => G.out ai wf1 W (hA8.call h.1)
              generalize lmGet (lmRun ns) bi = ly at *
              generalize lmGet (lmRun ns) ai = lx at *
              clear G LE p2 p3 p4
              go_region_held3 (fun w' => Below w8.heap.size w8 w' ∧ w'.cell? ⟨gw, 0, none⟩ = some (.int .i64 ai) ∧ w'.cell? ⟨gw, 1, none⟩ = some (.int .i64 aw) ∧ w'.cell? ⟨go, 0, none⟩ = some (.int .i64 bi) ∧ w'.cell? ⟨go, 1, none⟩ = some (.int .i64 bw)) ((first | assumption | ((refine ⟨?_, ?_⟩; (first | assumption | exact (Below.refl _ _).drew | exact Below.refl _ _); go_keep)))) (first
                | (go_at_call 89; (with_reducible refine (HG1.out _ _ (by assumption)).mono ?_); rintro e w9 ⟨rfl, rfl⟩)
                | (go_at_call 89; (with_reducible refine (HG2.out _ _ (by assumption)).mono ?_); rintro e w9 ⟨rfl, rfl⟩)
                | (go_at_call 88; (with_reducible refine (HL.out _).mono ?_); rintro e w9 ⟨rfl, hb9⟩; have hS := hold4 (by assumption) hb9)
                | (go_at_call 77; (with_reducible refine (awake28 _).mono ?_); rintro e w9 ⟨rfl, hb9⟩; have hS := hold4 (by assumption) hb9))
              all_goals
                go_wp2_with fail
                go_ret
                exact ⟨rfl, below_chain (by exact hS.1) hb8⟩
        · obtain rfl : v = false := by simpa using huv
          clear huv
          go_wp2_with fail
          refine hHas.out.mono ?_
          rintro e w6 ⟨rfl, hb6⟩
          have G2 := F2.call hb6
          have G3 := F3.call hb6
          have hA6 := hA5.call hb6
          have hbf := below_chain hb6 hbe
          clear hHas F1 F2 F3 hbe hb6 hA5 s0 s1 t0 t1 t2 t3 t4 t5 v0 v1 v2 v3 v4 v5 hRl2
          obtain ⟨⟨t0, t1, t2, t3, t4, t5⟩, -⟩ := G2.six
          obtain ⟨⟨v0, v1, v2, v3, v4, v5⟩, -⟩ := G3.six
          have n2 := G2.lt
          have n3 := G3.lt
          go_wp2_with fail
          go_region
          · have Pw : Blk ((w6.alloc (.cells #[.int .i64 ai, .int .i64 aw, .int .i64 ast, .bool av, .int .u64 ah, .int .u64 ao] 106)).alloc (.cells #[.int .i64 bi, .int .i64 bw, .int .i64 bs, .bool bv, .int .u64 bh, .int .u64 bo] 106)) w6.heap.size 106 #[.int .i64 ai, .int .i64 aw, .int .i64 ast, .bool av, .int .u64 ah, .int .u64 ao] := (Blk.new w6 _ _).alloc _
            have Po : Blk ((w6.alloc (.cells #[.int .i64 ai, .int .i64 aw, .int .i64 ast, .bool av, .int .u64 ah, .int .u64 ao] 106)).alloc (.cells #[.int .i64 bi, .int .i64 bw, .int .i64 bs, .bool bv, .int .u64 bh, .int .u64 bo] 106)) (w6.heap.size + 1) 106 #[.int .i64 bi, .int .i64 bw, .int .i64 bs, .bool bv, .int .u64 bh, .int .u64 bo] := by have hn := Blk.new (w6.alloc (.cells #[.int .i64 ai, .int .i64 aw, .int .i64 ast, .bool av, .int .u64 ah, .int .u64 ao] 106)) 106 #[.int .i64 bi, .int .i64 bw, .int .i64 bs, .bool bv, .int .u64 bh, .int .u64 bo]; simp only [World.size_alloc] at hn; exact hn
            have Pc : Blk ((w6.alloc (.cells #[.int .i64 ai, .int .i64 aw, .int .i64 ast, .bool av, .int .u64 ah, .int .u64 ao] 106)).alloc (.cells #[.int .i64 bi, .int .i64 bw, .int .i64 bs, .bool bv, .int .u64 bh, .int .u64 bo] 106)) w2.heap.size 106 #[.int .i64 ai, .int .i64 aw, .int .i64 ast, .bool av, .int .u64 ah, .int .u64 ao] := (G2.alloc _).alloc _
            have Pd : Blk ((w6.alloc (.cells #[.int .i64 ai, .int .i64 aw, .int .i64 ast, .bool av, .int .u64 ah, .int .u64 ao] 106)).alloc (.cells #[.int .i64 bi, .int .i64 bw, .int .i64 bs, .bool bv, .int .u64 bh, .int .u64 bo] 106)) w3.heap.size 106 #[.int .i64 bi, .int .i64 bw, .int .i64 bs, .bool bv, .int .u64 bh, .int .u64 bo] := (G3.alloc _).alloc _
            have hA7 : LoadAt (((w6.alloc (.cells #[.int .i64 ai, .int .i64 aw, .int .i64 ast, .bool av, .int .u64 ah, .int .u64 ao] 106)).alloc (.cells #[.int .i64 bi, .int .i64 bw, .int .i64 bs, .bool bv, .int .u64 bh, .int .u64 bo] 106)).drew) g b (lmRun ns) := (hA6.alloc _).alloc _
            have hb7 : Below w.heap.size w (((w6.alloc (.cells #[.int .i64 ai, .int .i64 aw, .int .i64 ast, .bool av, .int .u64 ah, .int .u64 ao] 106)).alloc (.cells #[.int .i64 bi, .int .i64 bw, .int .i64 bs, .bool bv, .int .u64 bh, .int .u64 bo] 106)).drew) := (below_alloc (below_alloc hbf _) _).drew
            have Pw : Blk (((w6.alloc (.cells #[.int .i64 ai, .int .i64 aw, .int .i64 ast, .bool av, .int .u64 ah, .int .u64 ao] 106)).alloc (.cells #[.int .i64 bi, .int .i64 bw, .int .i64 bs, .bool bv, .int .u64 bh, .int .u64 bo] 106)).drew) _ 106 #[.int .i64 ai, .int .i64 aw, .int .i64 ast, .bool av, .int .u64 ah, .int .u64 ao] := Pw
            have Po : Blk (((w6.alloc (.cells #[.int .i64 ai, .int .i64 aw, .int .i64 ast, .bool av, .int .u64 ah, .int .u64 ao] 106)).alloc (.cells #[.int .i64 bi, .int .i64 bw, .int .i64 bs, .bool bv, .int .u64 bh, .int .u64 bo] 106)).drew) _ 106 #[.int .i64 bi, .int .i64 bw, .int .i64 bs, .bool bv, .int .u64 bh, .int .u64 bo] := Po
            have Pc : Blk (((w6.alloc (.cells #[.int .i64 ai, .int .i64 aw, .int .i64 ast, .bool av, .int .u64 ah, .int .u64 ao] 106)).alloc (.cells #[.int .i64 bi, .int .i64 bw, .int .i64 bs, .bool bv, .int .u64 bh, .int .u64 bo] 106)).drew) _ 106 #[.int .i64 ai, .int .i64 aw, .int .i64 ast, .bool av, .int .u64 ah, .int .u64 ao] := Pc
            have Pd : Blk (((w6.alloc (.cells #[.int .i64 ai, .int .i64 aw, .int .i64 ast, .bool av, .int .u64 ah, .int .u64 ao] 106)).alloc (.cells #[.int .i64 bi, .int .i64 bw, .int .i64 bs, .bool bv, .int .u64 bh, .int .u64 bo] 106)).drew) _ 106 #[.int .i64 bi, .int .i64 bw, .int .i64 bs, .bool bv, .int .u64 bh, .int .u64 bo] := Pd
            have hz6 := hbf.size
            obtain ⟨gw, hgwE⟩ : ∃ gw, w6.heap.size = gw := ⟨_, rfl⟩
            obtain ⟨go, hgoE⟩ : ∃ go, w6.heap.size + 1 = go := ⟨_, rfl⟩
            have hgoN : w.heap.size ≤ go := by omega
            have hgwN : w.heap.size ≤ gw := by omega
            have hne : gw ≠ go := by omega
            have hn2w : w2.heap.size ≠ gw := by omega
            have hn3w : w3.heap.size ≠ gw := by omega
            have hn2o : w2.heap.size ≠ go := by omega
            rw [hgwE] at Pw
            rw [hgoE] at Po
            rw [hgoE]
            rw [hgwE]
            generalize ((w6.alloc (.cells #[.int .i64 ai, .int .i64 aw, .int .i64 ast, .bool av, .int .u64 ah, .int .u64 ao] 106)).alloc (.cells #[.int .i64 bi, .int .i64 bw, .int .i64 bs, .bool bv, .int .u64 bh, .int .u64 bo] 106)).drew = w7 at *
            clear G2 G3 hA6 hbf t0 t1 t2 t3 t4 t5 v0 v1 v2 v3 v4 v5 n2 n3 hgoE hgwE hz6
            by_cases hzb : z = bi
            · have ez : (z == bi) = true := by simpa using hzb
              have pf := Lib.hid (p3.out hzb)
              replace hzb := Lib.hid hzb
              obtain ⟨⟨a0, a1, a2, a3, a4, a5⟩, qa0, qa1, qa2, qa3, qa4, qa5⟩ := Pw.six
              obtain ⟨⟨v0, v1, v2, v3, v4, v5⟩, -⟩ := Pd.six
              clear Pd
              replace Pw := Lib.hid Pw
              replace Po := Lib.hid Po
              replace Pc := Lib.hid Pc
              go_upto_region 20 with (fail)
              have Qw : Blk (((((((w7).setCell ⟨gw, 0, none⟩ (.int .i64 bi)).setCell ⟨gw, 1, none⟩ (.int .i64 bw)).setCell ⟨gw, 2, none⟩ (.int .i64 bs)).setCell ⟨gw, 3, none⟩ (.bool bv)).setCell ⟨gw, 4, none⟩ (.int .u64 bh)).setCell ⟨gw, 5, none⟩ (.int .u64 bo)) gw 106 #[.int .i64 bi, .int .i64 bw, .int .i64 bs, .bool bv, .int .u64 bh, .int .u64 bo] := blk_set6 Pw.out
              have Qo : Blk (((((((w7).setCell ⟨gw, 0, none⟩ (.int .i64 bi)).setCell ⟨gw, 1, none⟩ (.int .i64 bw)).setCell ⟨gw, 2, none⟩ (.int .i64 bs)).setCell ⟨gw, 3, none⟩ (.bool bv)).setCell ⟨gw, 4, none⟩ (.int .u64 bh)).setCell ⟨gw, 5, none⟩ (.int .u64 bo)) go 106 #[.int .i64 bi, .int .i64 bw, .int .i64 bs, .bool bv, .int .u64 bh, .int .u64 bo] := blk_far6 Po.out (by omega)
              have Qc : Blk (((((((w7).setCell ⟨gw, 0, none⟩ (.int .i64 bi)).setCell ⟨gw, 1, none⟩ (.int .i64 bw)).setCell ⟨gw, 2, none⟩ (.int .i64 bs)).setCell ⟨gw, 3, none⟩ (.bool bv)).setCell ⟨gw, 4, none⟩ (.int .u64 bh)).setCell ⟨gw, 5, none⟩ (.int .u64 bo)) w2.heap.size 106 #[.int .i64 ai, .int .i64 aw, .int .i64 ast, .bool av, .int .u64 ah, .int .u64 ao] := blk_far6 Pc.out hn2w
              have hAq : LoadAt (((((((w7).setCell ⟨gw, 0, none⟩ (.int .i64 bi)).setCell ⟨gw, 1, none⟩ (.int .i64 bw)).setCell ⟨gw, 2, none⟩ (.int .i64 bs)).setCell ⟨gw, 3, none⟩ (.bool bv)).setCell ⟨gw, 4, none⟩ (.int .u64 bh)).setCell ⟨gw, 5, none⟩ (.int .u64 bo)) g b (lmRun ns) := hA7.set6 Pw.out
              have hbq : Below w.heap.size w (((((((w7).setCell ⟨gw, 0, none⟩ (.int .i64 bi)).setCell ⟨gw, 1, none⟩ (.int .i64 bw)).setCell ⟨gw, 2, none⟩ (.int .i64 bs)).setCell ⟨gw, 3, none⟩ (.bool bv)).setCell ⟨gw, 4, none⟩ (.int .u64 bh)).setCell ⟨gw, 5, none⟩ (.int .u64 bo)) := set6 hb7 hgwN
              clear Pw Po Pc hA7 hb7 a0 a1 a2 a3 a4 a5 qa0 qa1 qa2 qa3 qa4 qa5 v0 v1 v2 v3 v4 v5
              generalize (((((((w7).setCell ⟨gw, 0, none⟩ (.int .i64 bi)).setCell ⟨gw, 1, none⟩ (.int .i64 bw)).setCell ⟨gw, 2, none⟩ (.int .i64 bs)).setCell ⟨gw, 3, none⟩ (.bool bv)).setCell ⟨gw, 4, none⟩ (.int .u64 bh)).setCell ⟨gw, 5, none⟩ (.int .u64 bo)) = wq at *
              obtain ⟨⟨a0, a1, a2, a3, a4, a5⟩, qa0, qa1, qa2, qa3, qa4, qa5⟩ := Qo.six
              obtain ⟨⟨v0, v1, v2, v3, v4, v5⟩, -⟩ := Qc.six
              clear Qc
              replace Qw := Lib.hid Qw
              replace Qo := Lib.hid Qo
              go_upto_region 21 with (fail)
              have Rw : Blk (((((((wq).setCell ⟨go, 0, none⟩ (.int .i64 ai)).setCell ⟨go, 1, none⟩ (.int .i64 aw)).setCell ⟨go, 2, none⟩ (.int .i64 ast)).setCell ⟨go, 3, none⟩ (.bool av)).setCell ⟨go, 4, none⟩ (.int .u64 ah)).setCell ⟨go, 5, none⟩ (.int .u64 ao)) gw 106 #[.int .i64 bi, .int .i64 bw, .int .i64 bs, .bool bv, .int .u64 bh, .int .u64 bo] := blk_far6 Qw.out (by omega)
              have Ro : Blk (((((((wq).setCell ⟨go, 0, none⟩ (.int .i64 ai)).setCell ⟨go, 1, none⟩ (.int .i64 aw)).setCell ⟨go, 2, none⟩ (.int .i64 ast)).setCell ⟨go, 3, none⟩ (.bool av)).setCell ⟨go, 4, none⟩ (.int .u64 ah)).setCell ⟨go, 5, none⟩ (.int .u64 ao)) go 106 #[.int .i64 ai, .int .i64 aw, .int .i64 ast, .bool av, .int .u64 ah, .int .u64 ao] := blk_set6 Qo.out
              have hA8 : LoadAt (((((((wq).setCell ⟨go, 0, none⟩ (.int .i64 ai)).setCell ⟨go, 1, none⟩ (.int .i64 aw)).setCell ⟨go, 2, none⟩ (.int .i64 ast)).setCell ⟨go, 3, none⟩ (.bool av)).setCell ⟨go, 4, none⟩ (.int .u64 ah)).setCell ⟨go, 5, none⟩ (.int .u64 ao)) g b (lmRun ns) := hAq.set6 Qo.out
              have hb8 : Below w.heap.size w (((((((wq).setCell ⟨go, 0, none⟩ (.int .i64 ai)).setCell ⟨go, 1, none⟩ (.int .i64 aw)).setCell ⟨go, 2, none⟩ (.int .i64 ast)).setCell ⟨go, 3, none⟩ (.bool av)).setCell ⟨go, 4, none⟩ (.int .u64 ah)).setCell ⟨go, 5, none⟩ (.int .u64 ao)) := set6 hbq hgoN
              clear Qw Qo hAq hbq a0 a1 a2 a3 a4 a5 qa0 qa1 qa2 qa3 qa4 qa5 v0 v1 v2 v3 v4 v5
              generalize (((((((wq).setCell ⟨go, 0, none⟩ (.int .i64 ai)).setCell ⟨go, 1, none⟩ (.int .i64 aw)).setCell ⟨go, 2, none⟩ (.int .i64 ast)).setCell ⟨go, 3, none⟩ (.bool av)).setCell ⟨go, 4, none⟩ (.int .u64 ah)).setCell ⟨go, 5, none⟩ (.int .u64 ao)) = w8 at *
              obtain ⟨⟨a0, a1, -⟩, -⟩ := Rw.six
              obtain ⟨⟨c0, c1, -⟩, -⟩ := Ro.six
              clear Rw Ro
              have HL := Lib.hid (LE.out (lmGet (lmRun ns) ai) aw ai (lmGet (lmRun ns) bi) bw bi)
              rw [pf.out] at HL
              have HG1 := Lib.hid fun (W : World) (R : Prop) (h : Below w8.heap.size w8 W ∧ R) => G.out ai wf1 W (hA8.call h.1)
              have HG2 := Lib.hid fun (W : World) (R : Prop) (h : Below w8.heap.size w8 W ∧ R) => G.out bi wf2 W (hA8.call h.1)
              generalize lmGet (lmRun ns) ai = ly at *
              generalize lmGet (lmRun ns) bi = lx at *
              clear G LE p2 p3 p4
              go_region_held3 (fun w' => Below w8.heap.size w8 w' ∧ w'.cell? ⟨gw, 0, none⟩ = some (.int .i64 bi) ∧ w'.cell? ⟨gw, 1, none⟩ = some (.int .i64 bw) ∧ w'.cell? ⟨go, 0, none⟩ = some (.int .i64 ai) ∧ w'.cell? ⟨go, 1, none⟩ = some (.int .i64 aw)) ((first | assumption | ((refine ⟨?_, ?_⟩; (first | assumption | exact (Below.refl _ _).drew | exact Below.refl _ _); go_keep)))) (first
                | (go_at_call 89; (with_reducible refine (HG1.out _ _ (by assumption)).mono ?_); rintro e w9 ⟨rfl, rfl⟩)
                | (go_at_call 89; (with_reducible refine (HG2.out _ _ (by assumption)).mono ?_); rintro e w9 ⟨rfl, rfl⟩)
                | (go_at_call 88; (with_reducible refine (HL.out _).mono ?_); rintro e w9 ⟨rfl, hb9⟩; have hS := hold4 (by assumption) hb9)
                | (go_at_call 77; (with_reducible refine (awake28 _).mono ?_); rintro e w9 ⟨rfl, hb9⟩; have hS := hold4 (by assumption) hb9))
              all_goals
                go_wp2_with fail
                go_ret
                exact ⟨rfl, below_chain (by exact hS.1) hb8⟩
            · have ez : (z == bi) = false := by simpa using hzb
              have pf := Lib.hid (p4.out hzb)
              replace hzb := Lib.hid hzb
              obtain ⟨⟨v0, -⟩, -⟩ := Pd.six
              obtain ⟨⟨a0, a1, -⟩, -⟩ := Pw.six
              obtain ⟨⟨c0, c1, -⟩, -⟩ := Po.six
              clear Pd Pc Pw Po
              go_upto_region 21 with (fail)
              have hA8 := hA7
              have hb8 := hb7
              clear hA7 hb7 v0
              generalize w7 = w8 at *
              have HL := Lib.hid (LE.out (lmGet (lmRun ns) bi) bw bi (lmGet (lmRun ns) ai) aw ai)
              rw [pf.out] at HL
              have HG1 := Lib.hid fun (W : World) (R : Prop) (h : Below w8.heap.size w8 W ∧ R) => G.out bi wf2 W (hA8.call h.1)
              have HG2 := Lib.hid fun (W : World) (R : Prop) (h : Below w8.heap.size w8 W ∧ R) => G.out ai wf1 W (hA8.call h.1)
              generalize lmGet (lmRun ns) bi = ly at *
              generalize lmGet (lmRun ns) ai = lx at *
              clear G LE p2 p3 p4
              go_region_held3 (fun w' => Below w8.heap.size w8 w' ∧ w'.cell? ⟨gw, 0, none⟩ = some (.int .i64 ai) ∧ w'.cell? ⟨gw, 1, none⟩ = some (.int .i64 aw) ∧ w'.cell? ⟨go, 0, none⟩ = some (.int .i64 bi) ∧ w'.cell? ⟨go, 1, none⟩ = some (.int .i64 bw)) ((first | assumption | ((refine ⟨?_, ?_⟩; (first | assumption | exact (Below.refl _ _).drew | exact Below.refl _ _); go_keep)))) (first
                | (go_at_call 89; (with_reducible refine (HG1.out _ _ (by assumption)).mono ?_); rintro e w9 ⟨rfl, rfl⟩)
                | (go_at_call 89; (with_reducible refine (HG2.out _ _ (by assumption)).mono ?_); rintro e w9 ⟨rfl, rfl⟩)
                | (go_at_call 88; (with_reducible refine (HL.out _).mono ?_); rintro e w9 ⟨rfl, hb9⟩; have hS := hold4 (by assumption) hb9)
                | (go_at_call 77; (with_reducible refine (awake28 _).mono ?_); rintro e w9 ⟨rfl, hb9⟩; have hS := hold4 (by assumption) hb9))
              all_goals
                go_wp2_with fail
                go_ret
                exact ⟨rfl, below_chain (by exact hS.1) hb8⟩
          · have Pw : Blk ((w6.alloc (.cells #[.int .i64 bi, .int .i64 bw, .int .i64 bs, .bool bv, .int .u64 bh, .int .u64 bo] 106)).alloc (.cells #[.int .i64 ai, .int .i64 aw, .int .i64 ast, .bool av, .int .u64 ah, .int .u64 ao] 106)) (w6.heap.size + 1) 106 #[.int .i64 ai, .int .i64 aw, .int .i64 ast, .bool av, .int .u64 ah, .int .u64 ao] := by have hn := Blk.new (w6.alloc (.cells #[.int .i64 bi, .int .i64 bw, .int .i64 bs, .bool bv, .int .u64 bh, .int .u64 bo] 106)) 106 #[.int .i64 ai, .int .i64 aw, .int .i64 ast, .bool av, .int .u64 ah, .int .u64 ao]; simp only [World.size_alloc] at hn; exact hn
            have Po : Blk ((w6.alloc (.cells #[.int .i64 bi, .int .i64 bw, .int .i64 bs, .bool bv, .int .u64 bh, .int .u64 bo] 106)).alloc (.cells #[.int .i64 ai, .int .i64 aw, .int .i64 ast, .bool av, .int .u64 ah, .int .u64 ao] 106)) w6.heap.size 106 #[.int .i64 bi, .int .i64 bw, .int .i64 bs, .bool bv, .int .u64 bh, .int .u64 bo] := (Blk.new w6 _ _).alloc _
            have Pc : Blk ((w6.alloc (.cells #[.int .i64 bi, .int .i64 bw, .int .i64 bs, .bool bv, .int .u64 bh, .int .u64 bo] 106)).alloc (.cells #[.int .i64 ai, .int .i64 aw, .int .i64 ast, .bool av, .int .u64 ah, .int .u64 ao] 106)) w2.heap.size 106 #[.int .i64 ai, .int .i64 aw, .int .i64 ast, .bool av, .int .u64 ah, .int .u64 ao] := (G2.alloc _).alloc _
            have Pd : Blk ((w6.alloc (.cells #[.int .i64 bi, .int .i64 bw, .int .i64 bs, .bool bv, .int .u64 bh, .int .u64 bo] 106)).alloc (.cells #[.int .i64 ai, .int .i64 aw, .int .i64 ast, .bool av, .int .u64 ah, .int .u64 ao] 106)) w3.heap.size 106 #[.int .i64 bi, .int .i64 bw, .int .i64 bs, .bool bv, .int .u64 bh, .int .u64 bo] := (G3.alloc _).alloc _
            have hA7 : LoadAt (((w6.alloc (.cells #[.int .i64 bi, .int .i64 bw, .int .i64 bs, .bool bv, .int .u64 bh, .int .u64 bo] 106)).alloc (.cells #[.int .i64 ai, .int .i64 aw, .int .i64 ast, .bool av, .int .u64 ah, .int .u64 ao] 106)).drew) g b (lmRun ns) := (hA6.alloc _).alloc _
            have hb7 : Below w.heap.size w (((w6.alloc (.cells #[.int .i64 bi, .int .i64 bw, .int .i64 bs, .bool bv, .int .u64 bh, .int .u64 bo] 106)).alloc (.cells #[.int .i64 ai, .int .i64 aw, .int .i64 ast, .bool av, .int .u64 ah, .int .u64 ao] 106)).drew) := (below_alloc (below_alloc hbf _) _).drew
            have Pw : Blk (((w6.alloc (.cells #[.int .i64 bi, .int .i64 bw, .int .i64 bs, .bool bv, .int .u64 bh, .int .u64 bo] 106)).alloc (.cells #[.int .i64 ai, .int .i64 aw, .int .i64 ast, .bool av, .int .u64 ah, .int .u64 ao] 106)).drew) _ 106 #[.int .i64 ai, .int .i64 aw, .int .i64 ast, .bool av, .int .u64 ah, .int .u64 ao] := Pw
            have Po : Blk (((w6.alloc (.cells #[.int .i64 bi, .int .i64 bw, .int .i64 bs, .bool bv, .int .u64 bh, .int .u64 bo] 106)).alloc (.cells #[.int .i64 ai, .int .i64 aw, .int .i64 ast, .bool av, .int .u64 ah, .int .u64 ao] 106)).drew) _ 106 #[.int .i64 bi, .int .i64 bw, .int .i64 bs, .bool bv, .int .u64 bh, .int .u64 bo] := Po
            have Pc : Blk (((w6.alloc (.cells #[.int .i64 bi, .int .i64 bw, .int .i64 bs, .bool bv, .int .u64 bh, .int .u64 bo] 106)).alloc (.cells #[.int .i64 ai, .int .i64 aw, .int .i64 ast, .bool av, .int .u64 ah, .int .u64 ao] 106)).drew) _ 106 #[.int .i64 ai, .int .i64 aw, .int .i64 ast, .bool av, .int .u64 ah, .int .u64 ao] := Pc
            have Pd : Blk (((w6.alloc (.cells #[.int .i64 bi, .int .i64 bw, .int .i64 bs, .bool bv, .int .u64 bh, .int .u64 bo] 106)).alloc (.cells #[.int .i64 ai, .int .i64 aw, .int .i64 ast, .bool av, .int .u64 ah, .int .u64 ao] 106)).drew) _ 106 #[.int .i64 bi, .int .i64 bw, .int .i64 bs, .bool bv, .int .u64 bh, .int .u64 bo] := Pd
            have hz6 := hbf.size
            obtain ⟨go, hgoE⟩ : ∃ go, w6.heap.size = go := ⟨_, rfl⟩
            obtain ⟨gw, hgwE⟩ : ∃ gw, w6.heap.size + 1 = gw := ⟨_, rfl⟩
            have hgoN : w.heap.size ≤ go := by omega
            have hgwN : w.heap.size ≤ gw := by omega
            have hne : gw ≠ go := by omega
            have hn2w : w2.heap.size ≠ gw := by omega
            have hn3w : w3.heap.size ≠ gw := by omega
            have hn2o : w2.heap.size ≠ go := by omega
            rw [hgwE] at Pw
            rw [hgoE] at Po
            rw [hgwE]
            rw [hgoE]
            generalize ((w6.alloc (.cells #[.int .i64 bi, .int .i64 bw, .int .i64 bs, .bool bv, .int .u64 bh, .int .u64 bo] 106)).alloc (.cells #[.int .i64 ai, .int .i64 aw, .int .i64 ast, .bool av, .int .u64 ah, .int .u64 ao] 106)).drew = w7 at *
            clear G2 G3 hA6 hbf t0 t1 t2 t3 t4 t5 v0 v1 v2 v3 v4 v5 n2 n3 hgoE hgwE hz6
            by_cases hzb : z = bi
            · have ez : (z == bi) = true := by simpa using hzb
              have pf := Lib.hid (p3.out hzb)
              replace hzb := Lib.hid hzb
              obtain ⟨⟨a0, a1, a2, a3, a4, a5⟩, qa0, qa1, qa2, qa3, qa4, qa5⟩ := Pw.six
              obtain ⟨⟨v0, v1, v2, v3, v4, v5⟩, -⟩ := Pd.six
              clear Pd
              replace Pw := Lib.hid Pw
              replace Po := Lib.hid Po
              replace Pc := Lib.hid Pc
              go_upto_region 20 with (fail)
              have Qw : Blk (((((((w7).setCell ⟨gw, 0, none⟩ (.int .i64 bi)).setCell ⟨gw, 1, none⟩ (.int .i64 bw)).setCell ⟨gw, 2, none⟩ (.int .i64 bs)).setCell ⟨gw, 3, none⟩ (.bool bv)).setCell ⟨gw, 4, none⟩ (.int .u64 bh)).setCell ⟨gw, 5, none⟩ (.int .u64 bo)) gw 106 #[.int .i64 bi, .int .i64 bw, .int .i64 bs, .bool bv, .int .u64 bh, .int .u64 bo] := blk_set6 Pw.out
              have Qo : Blk (((((((w7).setCell ⟨gw, 0, none⟩ (.int .i64 bi)).setCell ⟨gw, 1, none⟩ (.int .i64 bw)).setCell ⟨gw, 2, none⟩ (.int .i64 bs)).setCell ⟨gw, 3, none⟩ (.bool bv)).setCell ⟨gw, 4, none⟩ (.int .u64 bh)).setCell ⟨gw, 5, none⟩ (.int .u64 bo)) go 106 #[.int .i64 bi, .int .i64 bw, .int .i64 bs, .bool bv, .int .u64 bh, .int .u64 bo] := blk_far6 Po.out (by omega)
              have Qc : Blk (((((((w7).setCell ⟨gw, 0, none⟩ (.int .i64 bi)).setCell ⟨gw, 1, none⟩ (.int .i64 bw)).setCell ⟨gw, 2, none⟩ (.int .i64 bs)).setCell ⟨gw, 3, none⟩ (.bool bv)).setCell ⟨gw, 4, none⟩ (.int .u64 bh)).setCell ⟨gw, 5, none⟩ (.int .u64 bo)) w2.heap.size 106 #[.int .i64 ai, .int .i64 aw, .int .i64 ast, .bool av, .int .u64 ah, .int .u64 ao] := blk_far6 Pc.out hn2w
              have hAq : LoadAt (((((((w7).setCell ⟨gw, 0, none⟩ (.int .i64 bi)).setCell ⟨gw, 1, none⟩ (.int .i64 bw)).setCell ⟨gw, 2, none⟩ (.int .i64 bs)).setCell ⟨gw, 3, none⟩ (.bool bv)).setCell ⟨gw, 4, none⟩ (.int .u64 bh)).setCell ⟨gw, 5, none⟩ (.int .u64 bo)) g b (lmRun ns) := hA7.set6 Pw.out
              have hbq : Below w.heap.size w (((((((w7).setCell ⟨gw, 0, none⟩ (.int .i64 bi)).setCell ⟨gw, 1, none⟩ (.int .i64 bw)).setCell ⟨gw, 2, none⟩ (.int .i64 bs)).setCell ⟨gw, 3, none⟩ (.bool bv)).setCell ⟨gw, 4, none⟩ (.int .u64 bh)).setCell ⟨gw, 5, none⟩ (.int .u64 bo)) := set6 hb7 hgwN
              clear Pw Po Pc hA7 hb7 a0 a1 a2 a3 a4 a5 qa0 qa1 qa2 qa3 qa4 qa5 v0 v1 v2 v3 v4 v5
              generalize (((((((w7).setCell ⟨gw, 0, none⟩ (.int .i64 bi)).setCell ⟨gw, 1, none⟩ (.int .i64 bw)).setCell ⟨gw, 2, none⟩ (.int .i64 bs)).setCell ⟨gw, 3, none⟩ (.bool bv)).setCell ⟨gw, 4, none⟩ (.int .u64 bh)).setCell ⟨gw, 5, none⟩ (.int .u64 bo)) = wq at *
              obtain ⟨⟨a0, a1, a2, a3, a4, a5⟩, qa0, qa1, qa2, qa3, qa4, qa5⟩ := Qo.six
              obtain ⟨⟨v0, v1, v2, v3, v4, v5⟩, -⟩ := Qc.six
              clear Qc
              replace Qw := Lib.hid Qw
              replace Qo := Lib.hid Qo
              go_upto_region 21 with (fail)
              have Rw : Blk (((((((wq).setCell ⟨go, 0, none⟩ (.int .i64 ai)).setCell ⟨go, 1, none⟩ (.int .i64 aw)).setCell ⟨go, 2, none⟩ (.int .i64 ast)).setCell ⟨go, 3, none⟩ (.bool av)).setCell ⟨go, 4, none⟩ (.int .u64 ah)).setCell ⟨go, 5, none⟩ (.int .u64 ao)) gw 106 #[.int .i64 bi, .int .i64 bw, .int .i64 bs, .bool bv, .int .u64 bh, .int .u64 bo] := blk_far6 Qw.out (by omega)
              have Ro : Blk (((((((wq).setCell ⟨go, 0, none⟩ (.int .i64 ai)).setCell ⟨go, 1, none⟩ (.int .i64 aw)).setCell ⟨go, 2, none⟩ (.int .i64 ast)).setCell ⟨go, 3, none⟩ (.bool av)).setCell ⟨go, 4, none⟩ (.int .u64 ah)).setCell ⟨go, 5, none⟩ (.int .u64 ao)) go 106 #[.int .i64 ai, .int .i64 aw, .int .i64 ast, .bool av, .int .u64 ah, .int .u64 ao] := blk_set6 Qo.out
              have hA8 : LoadAt (((((((wq).setCell ⟨go, 0, none⟩ (.int .i64 ai)).setCell ⟨go, 1, none⟩ (.int .i64 aw)).setCell ⟨go, 2, none⟩ (.int .i64 ast)).setCell ⟨go, 3, none⟩ (.bool av)).setCell ⟨go, 4, none⟩ (.int .u64 ah)).setCell ⟨go, 5, none⟩ (.int .u64 ao)) g b (lmRun ns) := hAq.set6 Qo.out
              have hb8 : Below w.heap.size w (((((((wq).setCell ⟨go, 0, none⟩ (.int .i64 ai)).setCell ⟨go, 1, none⟩ (.int .i64 aw)).setCell ⟨go, 2, none⟩ (.int .i64 ast)).setCell ⟨go, 3, none⟩ (.bool av)).setCell ⟨go, 4, none⟩ (.int .u64 ah)).setCell ⟨go, 5, none⟩ (.int .u64 ao)) := set6 hbq hgoN
              clear Qw Qo hAq hbq a0 a1 a2 a3 a4 a5 qa0 qa1 qa2 qa3 qa4 qa5 v0 v1 v2 v3 v4 v5
              generalize (((((((wq).setCell ⟨go, 0, none⟩ (.int .i64 ai)).setCell ⟨go, 1, none⟩ (.int .i64 aw)).setCell ⟨go, 2, none⟩ (.int .i64 ast)).setCell ⟨go, 3, none⟩ (.bool av)).setCell ⟨go, 4, none⟩ (.int .u64 ah)).setCell ⟨go, 5, none⟩ (.int .u64 ao)) = w8 at *
              obtain ⟨⟨a0, a1, -⟩, -⟩ := Rw.six
              obtain ⟨⟨c0, c1, -⟩, -⟩ := Ro.six
              clear Rw Ro
              have HL := Lib.hid (LE.out (lmGet (lmRun ns) ai) aw ai (lmGet (lmRun ns) bi) bw bi)
              rw [pf.out] at HL
              have HG1 := Lib.hid fun (W : World) (R : Prop) (h : Below w8.heap.size w8 W ∧ R) => G.out ai wf1 W (hA8.call h.1)
              have HG2 := Lib.hid fun (W : World) (R : Prop) (h : Below w8.heap.size w8 W ∧ R) => G.out bi wf2 W (hA8.call h.1)
              generalize lmGet (lmRun ns) ai = ly at *
              generalize lmGet (lmRun ns) bi = lx at *
              clear G LE p2 p3 p4
              go_region_held3 (fun w' => Below w8.heap.size w8 w' ∧ w'.cell? ⟨gw, 0, none⟩ = some (.int .i64 bi) ∧ w'.cell? ⟨gw, 1, none⟩ = some (.int .i64 bw) ∧ w'.cell? ⟨go, 0, none⟩ = some (.int .i64 ai) ∧ w'.cell? ⟨go, 1, none⟩ = some (.int .i64 aw)) ((first | assumption | ((refine ⟨?_, ?_⟩; (first | assumption | exact (Below.refl _ _).drew | exact Below.refl _ _); go_keep)))) (first
                | (go_at_call 89; (with_reducible refine (HG1.out _ _ (by assumption)).mono ?_); rintro e w9 ⟨rfl, rfl⟩)
                | (go_at_call 89; (with_reducible refine (HG2.out _ _ (by assumption)).mono ?_); rintro e w9 ⟨rfl, rfl⟩)
                | (go_at_call 88; (with_reducible refine (HL.out _).mono ?_); rintro e w9 ⟨rfl, hb9⟩; have hS := hold4 (by assumption) hb9)
                | (go_at_call 77; (with_reducible refine (awake28 _).mono ?_); rintro e w9 ⟨rfl, hb9⟩; have hS := hold4 (by assumption) hb9))
              all_goals
                go_wp2_with fail
                go_ret
                exact ⟨rfl, below_chain (by exact hS.1) hb8⟩
            · have ez : (z == bi) = false := by simpa using hzb
              have pf := Lib.hid (p4.out hzb)
              replace hzb := Lib.hid hzb
              obtain ⟨⟨v0, -⟩, -⟩ := Pd.six
              obtain ⟨⟨a0, a1, -⟩, -⟩ := Pw.six
              obtain ⟨⟨c0, c1, -⟩, -⟩ := Po.six
              clear Pd Pc Pw Po
              go_upto_region 21 with (fail)
              have hA8 := hA7
              have hb8 := hb7
              clear hA7 hb7 v0
              generalize w7 = w8 at *
              have HL := Lib.hid (LE.out (lmGet (lmRun ns) bi) bw bi (lmGet (lmRun ns) ai) aw ai)
              rw [pf.out] at HL
              have HG1 := Lib.hid fun (W : World) (R : Prop) (h : Below w8.heap.size w8 W ∧ R) => G.out bi wf2 W (hA8.call h.1)
              have HG2 := Lib.hid fun (W : World) (R : Prop) (h : Below w8.heap.size w8 W ∧ R) => G.out ai wf1 W (hA8.call h.1)
              generalize lmGet (lmRun ns) bi = ly at *
              generalize lmGet (lmRun ns) ai = lx at *
              clear G LE p2 p3 p4
              go_region_held3 (fun w' => Below w8.heap.size w8 w' ∧ w'.cell? ⟨gw, 0, none⟩ = some (.int .i64 ai) ∧ w'.cell? ⟨gw, 1, none⟩ = some (.int .i64 aw) ∧ w'.cell? ⟨go, 0, none⟩ = some (.int .i64 bi) ∧ w'.cell? ⟨go, 1, none⟩ = some (.int .i64 bw)) ((first | assumption | ((refine ⟨?_, ?_⟩; (first | assumption | exact (Below.refl _ _).drew | exact Below.refl _ _); go_keep)))) (first
                | (go_at_call 89; (with_reducible refine (HG1.out _ _ (by assumption)).mono ?_); rintro e w9 ⟨rfl, rfl⟩)
                | (go_at_call 89; (with_reducible refine (HG2.out _ _ (by assumption)).mono ?_); rintro e w9 ⟨rfl, rfl⟩)
                | (go_at_call 88; (with_reducible refine (HL.out _).mono ?_); rintro e w9 ⟨rfl, hb9⟩; have hS := hold4 (by assumption) hb9)
                | (go_at_call 77; (with_reducible refine (awake28 _).mono ?_); rintro e w9 ⟨rfl, hb9⟩; have hS := hold4 (by assumption) hb9))
              all_goals
                go_wp2_with fail
                go_ret
                exact ⟨rfl, below_chain (by exact hS.1) hb8⟩
end Go.Proofs.Ytdkcjfcjckpjcaa
