/- shift: the document's Drain. -/
import Derived.Test.YtkpkjpdhlmjchaaShiftX
namespace Go.Proofs.Ytkpkjpdhlmjchaa
open Go Go.RowKit Go.Deep

set_option maxRecDepth 100000 in
set_option maxHeartbeats 8000000 in
theorem refdrain_any (l : List Bk) (A : Option Addr) (c : Nat) (id ka kb m : Int) (w : World) (hr : Reads w w.heap.size 6 A l.length (l.flatMap Bk.cells)) (h : ShOk m l l) :
    Calls Try.prog 16 #[.slice A l.length c, .int .i64 id, .agg #[.int .u64 ka, .int .u64 kb], .int .i64 m] w fun e w' => e = .returned (.tuple #[.agg (drV ka kb m l id).arr, .int .i64 (drE m l id)]) ∧ Below w.heap.size w w' := by
  obtain ⟨w0, hw0⟩ : ∃ w0, w0 = (w.alloc (.cells #[.int .u64 ka, .int .u64 kb] 25)).alloc (.cells (mvArr 0 0 0 0) 27) := ⟨_, rfl⟩
  have hb0 : Below w.heap.size w w0 := hw0 ▸ below_alloc (below_alloc (Below.refl _ _) _) _
  have K0 : Blk w0 w.heap.size 25 #[.int .u64 ka, .int .u64 kb] := hw0 ▸ (Blk.new w _ _).alloc _
  have R0 : Blk w0 (w.heap.size + 1) 27 (mvArr 0 0 0 0) := by
    have := Blk.new (w.alloc (.cells #[.int .u64 ka, .int .u64 kb] 25)) 27 (mvArr 0 0 0 0)
    rw [← hw0] at this
    simpa using this
  have HS := fun W (hb : Below w.heap.size w W) => ref24_has l A c id W ((hr.below hb).more hb.size) (by have := h.la; omega)
  have hsz : w.heap.size + 1 < w0.heap.size := R0.lt
  obtain ⟨t, ht⟩ : ∃ t, hasB l id = t := ⟨_, rfl⟩
  rw [ht] at HS
  replace HS := Lib.hid HS
  cases t
  · have e1 : drE m l id = 13 := by unfold drE; rw [ht]; rfl
    have e2 : drV ka kb m l id = ⟨0, 0, 0, 0⟩ := by unfold drV; rw [ht]; rfl
    rw [e1, e2]
    clear e1 e2 ht hr h K0
    obtain ⟨⟨b0, b1, b2, b3⟩, s0, s1, s2, s3⟩ := R0.four
    have hfin := blk_set4 (a0 := .int .i64 0) (a1 := .int .i64 0) (a2 := .int .i64 0) (a3 := .int .i64 0) R0
    obtain ⟨⟨f0, f1, f2, f3⟩, -⟩ := hfin.four
    clear hfin R0
    go_enter Try.func16, Try.ntmps16
    go_upto_region 1 with (fail)
    rw [← hw0]
    clear hw0
    go_wp2_with fail
    refine (HS.out _ hb0).mono ?_
    rintro e w1 ⟨rfl, rfl⟩
    go_wp2_with fail
    refine bodyPost_ret (v := .tuple #[.agg (mvArr 0 0 0 0), .int .i64 13]) (by simp [results, Try.results16, go_sem, f0, f1, f2, f3]) rfl ?_
    exact ⟨rfl, (((hb0.setCell (by simp) _).setCell (by simp) _).setCell (by simp) _).setCell (by simp) _⟩
  · have e1 : drE m l id = shE m l (dr l id) := by unfold drE; rw [ht]; rfl
    have e2 : drV ka kb m l id = shV ka kb m l (dr l id) := by unfold drV; rw [ht]; rfl
    rw [e1, e2]
    have OF := fun P p W (hb : Below w.heap.size w W) (hd : Reads W W.heap.size 6 P (dr l id).length ((dr l id).flatMap Bk.cells)) => refof_any l A c (dr l id) P p ka kb m W ((hr.below hb).more hb.size) hd (dr_ok h id)
    have hl := h.la
    obtain ⟨E, hE⟩ : ∃ E, shE m l (dr l id) = E := ⟨_, rfl⟩
    obtain ⟨V, hV⟩ : ∃ V, shV ka kb m l (dr l id) = V := ⟨_, rfl⟩
    rw [hE, hV] at OF ⊢
    have hfs := fun k x hx => filt_step l id k x hx
    replace OF := Lib.hid OF
    replace hfs := Lib.hid hfs
    clear e1 e2 ht h hE hV
    go_enter Try.func16, Try.ntmps16
    go_upto_region 1 with (fail)
    rw [← hw0]
    clear hw0
    go_wp2_with fail
    refine (HS.out _ hb0).mono ?_
    rintro e w1 ⟨rfl, rfl⟩
    clear HS
    go_wp2_with fail
    go_loopw [10, 11] (fun o i wr => ∃ (k : Nat) (L : List Bk) (P : Option Addr) (p : Nat), k ≤ l.length ∧ i = .int .i64 (k : Nat) ∧ L = (l.take k).filter (fun b => b.id != id) ∧ o = .slice P L.length p ∧ OwnB wr w0.heap.size P p L ∧ Blk wr w.heap.size 25 #[.int .u64 ka, .int .u64 kb] ∧ Blk wr (w.heap.size + 1) 27 (mvArr 0 0 0 0) ∧ Below w.heap.size w wr ∧ w0.heap.size ≤ wr.heap.size) (fun _ i _ => l.length - (intOf i).toNat)
    case atStart => exact ⟨0, [], none, 0, by omega, rfl, by simp, rfl, OwnA.nil _ _, K0, R0, hb0, Nat.le_refl _⟩
    case round =>
      obtain ⟨k, L, P, p, hk, rfl, hL, rfl, hO, hK, hR, hb, hz⟩ := hrel
      clear K0 R0 hb0
      by_cases hlt : k < l.length
      · have hlti : (k : Int) < (l.length : Int) := by omega
        obtain ⟨ad, x, rfl, hbl, hx, c0, c1, c2, c3, c4, c5⟩ := bk_at (hr.below hb) hlt
        have hfx := hfs.out k x hx
        rw [← hL] at hfx
        have hLl : L.length ≤ l.length := by rw [hL]; exact Nat.le_trans (List.length_filter_le _ _) (List.length_take_le' _ _)
        obtain ⟨xi, xw, xs, xv, xh, xo⟩ := x
        dsimp only at *
        obtain ⟨t, ht⟩ : ∃ t, (xi != id) = t := ⟨_, rfl⟩
        rw [ht] at hfx
        replace hx := Lib.hid hx
        replace hL := Lib.hid hL
        cases t
        · simp only [Bool.false_eq_true, if_false, List.append_nil] at hfx
          replace hfx := Lib.hid hfx
          clear hr
          go_wp2_with fail
          go_roundw
          case rel => exact ⟨k + 1, L, P, p, by omega, by go_num, hfx.out.symm, rfl, hO, hK, hR, hb, hz⟩
          case measure => simp [intOf]; omega
        · simp only [if_true] at hfx
          replace hfx := Lib.hid hfx
          have hnK : ¬ InB P w.heap.size := fun hi => by have := (hO.block hi).1; omega
          have hnR : ¬ InB P (w.heap.size + 1) := fun hi => by have := (hO.block hi).1; omega
          replace hK := Lib.hid hK
          replace hR := Lib.hid hR
          clear hr
          go_wp2_with (at_builtin; (refine wpList_push_bk rfl (.tmp 30) (.tmp 35) rfl w0.heap.size P p L ⟨xi, xw, xs, xv, xh, xo⟩ L.length rfl rfl hO _ (by simp) rfl rfl (by omega) hz ?_; intro P1 p1 w2 ho1 hp1; have hb2 := hp1.below hb hb.size (fun b hb => by have := (hO.block hb).1; omega); have hK2 := hK.out.chg hp1.chg hnK; have hR2 := hR.out.chg hp1.chg hnR; have hz2 := hp1.chg.size))
          go_roundw
          case rel => exact ⟨k + 1, L ++ [⟨xi, xw, xs, xv, xh, xo⟩], P1, p1, by omega, by go_num, hfx.out.symm, by simp, ho1, hK2, hR2, hb2, by omega⟩
          case measure => simp [intOf]; omega
      · obtain rfl : k = l.length := by omega
        have hlti : ¬ (l.length : Int) < (l.length : Int) := by omega
        rw [List.take_length] at hL
        obtain rfl : L = dr l id := hL
        have O3 := OF.out P p wr hb hO.reads
        have k0 := hK.cell 0
        have k1 := hK.cell 1
        simp only [List.getElem?_toArray, List.getElem?_cons_zero, List.getElem?_cons_succ] at k0 k1
        replace O3 := Lib.hid O3
        clear OF hO hr
        go_wp2_with fail
        refine O3.out.mono ?_
        rintro e w4 ⟨rfl, hb4⟩
        have R4 := hR.call hb4
        have hbD := below_chain hb4 hb
        clear hK hR k0 k1 hb hb4 O3
        obtain ⟨⟨b0, b1, b2, b3⟩, s0, s1, s2, s3⟩ := R4.four
        have hfin := blk_set4 (a0 := .int .i64 V.a) (a1 := .int .i64 V.b) (a2 := .int .i64 V.c) (a3 := .int .i64 V.d) R4
        obtain ⟨⟨f0, f1, f2, f3⟩, -⟩ := hfin.four
        clear hfin R4
        go_wp2_with fail
        refine bodyPost_ret (v := .tuple #[.agg V.arr, .int .i64 E]) (by simp [results, Try.results16, go_sem, f0, f1, f2, f3]) rfl ?_
        exact ⟨rfl, (((hbD.setCell (by simp) _).setCell (by simp) _).setCell (by simp) _).setCell (by simp) _⟩
end Go.Proofs.Ytkpkjpdhlmjchaa
