/- shift: the code's Of between two sets that have tables. -/
import Derived.Test.YtkpkjpdhlmjchaaShiftS
import Derived.Test.YtkpkjpdhlmjchaaEligA
import Derived.Deep.RegionHeld3
namespace Go.Proofs.Ytkpkjpdhlmjchaa
open Go Go.RowKit Go.Deep

theorem TabAt.far_tab {w : World} {g gT : Nat} {ka kb : Int} {pl : List Int} {cs : Array Value} (h : TabAt w g ka kb pl) (hT : Blk w gT 116 cs) (i : Nat) (u : Value) : TabAt (w.setCell ⟨gT, i, none⟩ u) g ka kb pl := by
  obtain ⟨gp, h1, h2⟩ := h
  refine ⟨gp, h1.far (Blk.ne_ h1 hT (by decide)) u, h2.setOther ?_ u⟩
  obtain ⟨c, hc, -⟩ := h2
  exact Blk.ne_ (t := 3) (cs := c) hc hT (by decide)

theorem ShSt.far {w w1 : World} {sb kk tz ss : Array Value} (h : ShSt w w1 sb kk tz ss) {g : Nat} (hg : w.heap.size + 1 + 1 + 1 + 1 + 1 < g) (i : Nat) (u : Value) : ShSt w (w1.setCell ⟨g, i, none⟩ u) sb kk tz ss :=
  ⟨h.below.setCell (by simp; omega) _, h.b.far (by simp; omega) _, h.k.far (by simp; omega) _, h.r.far (by simp; omega) _, h.t.far (by simp; omega) _, h.s.far (by simp; omega) _⟩

set_option maxRecDepth 100000 in
set_option maxHeartbeats 16000000 in
theorem shiftof_some (v1 v2 : Int) (l : List Bk) (A : Option Addr) (c : Nat) (o : List Bk) (B : Option Addr) (d : Nat) (ka kb : Int) (m : Nat) (w : World) (hr : Reads w w.heap.size 6 A l.length (l.flatMap Bk.cells)) (ho : Reads w w.heap.size 6 B o.length (o.flatMap Bk.cells)) (hm : m = 13 ∨ m = 251)
    (h0 : 0 < l.length) (hlm : l.length ≤ m) (h0o : 0 < o.length) (hom : o.length ≤ m) (hid : ∀ b ∈ l, 1 ≤ b.id ∧ b.id ≤ 65535) (hido : ∀ b ∈ o, 1 ≤ b.id ∧ b.id ≤ 65535) (P Q : List Int) (hP : tableOf ka kb m (l.map Bk.id) = P) (hQ : tableOf ka kb m (o.map Bk.id) = Q) (hPl : P.length = m) (hQl : Q.length = m) :
    Calls Try.prog 13 #[.agg #[.int .i64 v1, .slice A l.length c], .agg #[.int .i64 v2, .slice B o.length d], .agg #[.int .u64 ka, .int .u64 kb], .int .i64 (m : Int)] w fun e w' => e = .returned (.tuple #[.agg (mvArr m (mvC P Q m : Nat) (muC (hasB o) P Q m : Nat) ((mvC P Q m - muC (hasB o) P Q m : Nat))), .int .i64 0]) ∧ Below w.heap.size w w' := by
  have N1 := fun W (hb : Below w.heap.size w W) => new_some v1 l A c ka kb m W ((hr.below hb).more hb.size) hm h0 hlm hid
  have N2 := fun W (hb : Below w.heap.size w W) => new_some v2 o B d ka kb m W ((ho.below hb).more hb.size) hm h0o hom hido
  have HS := fun id W (hb : Below w.heap.size w W) => elig_has v2 o B d id W ((ho.below hb).more hb.size) (by omega)
  rw [hP] at N1
  rw [hQ] at N2
  have hmb : m ≤ 251 := by omega
  have hm0 : 0 < m := by omega
  have H0 := shW_st w #[.int .i64 v1, .slice A l.length c] #[.int .i64 v2, .slice B o.length d] #[.int .u64 ka, .int .u64 kb] #[.int .i64 v1, .slice A l.length c, .int .i64 v2, .slice B o.length d] #[.int .i64 v1, .slice A l.length c]
  replace N1 := Lib.hid N1
  replace N2 := Lib.hid N2
  replace HS := Lib.hid HS
  replace H0 := Lib.hid H0
  clear hr ho hid hido h0 hlm h0o hom hP hQ hm
  replace hPl := Lib.hid hPl
  replace hQl := Lib.hid hQl
  go_enter Try.func13, Try.ntmps13
  go_wp2_with fail
  refine wp_loop_rounds 3 ?_
  rw [rounds_succ]
  go_wp2_with fail
  refine (N1.out _ H0.out.below).mono ?_
  rintro e w1 ⟨gt, rfl, hT1, -, hb1⟩
  have H1 := H0.out.call hb1
  have H2 := (H1.tab (.pointer (some ⟨gt, 0, none⟩))).1
  have hT2 := hT1.far_tab H1.t 0 (.pointer (some ⟨gt, 0, none⟩))
  have t0 := H1.t.cell 0
  have q0 := H1.t.frozen 0
  have s2 := H1.s.cell 2
  have s3 := H1.s.cell 3
  simp only [List.getElem?_toArray, List.getElem?_cons_zero, List.getElem?_cons_succ] at t0 s2 s3
  have hzn := H1.s.lt
  replace H2 := Lib.hid H2
  replace hT2 := Lib.hid hT2
  clear hb1 H0 N1 H1 hT1
  go_wp2_with fail
  rw [rounds_succ]
  go_upto_region 5 with (fail)
  have X2 := Blk.new (w1.setCell ⟨w.heap.size + 1 + 1 + 1 + 1, 0, none⟩ (.pointer (some ⟨gt, 0, none⟩))) 36 #[.int .i64 v2, .slice B o.length d]
  simp only [World.size_setCell] at X2
  have H3 := H2.out.alloc (.cells #[.int .i64 v2, .slice B o.length d] 36)
  have hT3 := hT2.out.alloc (.cells #[.int .i64 v2, .slice B o.length d] 36)
  clear H2 hT2 s2 s3 t0 q0 hzn
  generalize ((w1.setCell ⟨w.heap.size + 1 + 1 + 1 + 1, 0, none⟩ (.pointer (some ⟨gt, 0, none⟩))).alloc (.cells #[.int .i64 v2, .slice B o.length d] 36)) = w3 at *
  generalize w1.heap.size = gx at *
  have k0 := H3.k.cell 0
  have k1 := H3.k.cell 1
  have s0 := X2.cell 0
  have s1 := X2.cell 1
  simp only [List.getElem?_toArray, List.getElem?_cons_zero, List.getElem?_cons_succ] at k0 k1 s0 s1
  replace H3 := Lib.hid H3
  replace hT3 := Lib.hid hT3
  clear X2
  go_wp2_with fail
  refine (N2.out _ H3.out.below).mono ?_
  rintro e w2 ⟨gu, rfl, hU4, -, hb2⟩
  have H4 := H3.out.call hb2
  have hT4 := hT3.out.keep hb2
  clear hb2 k0 k1 s0 s1 N2 H3 hT3
  have H5 := (H4.tab (.pointer (some ⟨gu, 0, none⟩))).2
  have hT5 := hT4.far_tab H4.t 1 (.pointer (some ⟨gu, 0, none⟩))
  have hU5 := hU4.far_tab H4.t 1 (.pointer (some ⟨gu, 0, none⟩))
  have t0 := H4.t.cell 1
  have q0 := H4.t.frozen 1
  simp only [List.getElem?_toArray, List.getElem?_cons_zero, List.getElem?_cons_succ] at t0
  replace H5 := Lib.hid H5
  replace hT5 := Lib.hid hT5
  replace hU5 := Lib.hid hU5
  clear H4 hT4 hU4
  go_wp2_with fail
  rw [rounds_succ]
  go_wp2_with fail
  generalize w2.setCell ⟨w.heap.size + 1 + 1 + 1 + 1, 1, none⟩ (.pointer (some ⟨gu, 0, none⟩)) = w4 at *
  clear t0 q0
  have t0 := H5.out.t.cell 0
  have t1 := H5.out.t.cell 1
  simp only [List.getElem?_toArray, List.getElem?_cons_zero, List.getElem?_cons_succ] at t0 t1
  have P1 := fun (W : World) (h : Below w4.heap.size w4 W ∧ W.cell? ⟨w.heap.size + 1 + 1 + 1 + 1, 0, none⟩ = some (.pointer (some ⟨gt, 0, none⟩)) ∧ W.cell? ⟨w.heap.size + 1 + 1 + 1 + 1, 1, none⟩ = some (.pointer (some ⟨gu, 0, none⟩))) => places_any (hT5.out.keep h.1) (by rw [hPl.out]; exact hm0) (by rw [hPl.out]; omega)
  have P2 := fun (W : World) (h : Below w4.heap.size w4 W ∧ W.cell? ⟨w.heap.size + 1 + 1 + 1 + 1, 0, none⟩ = some (.pointer (some ⟨gt, 0, none⟩)) ∧ W.cell? ⟨w.heap.size + 1 + 1 + 1 + 1, 1, none⟩ = some (.pointer (some ⟨gu, 0, none⟩))) => places_any (hU5.out.keep h.1) (by rw [hQl.out]; exact hm0) (by rw [hQl.out]; omega)
  rw [hPl.out] at P1
  rw [hQl.out] at P2
  replace P1 := Lib.hid P1
  replace P2 := Lib.hid P2
  go_region_held3 (fun w' => Below w4.heap.size w4 w' ∧ w'.cell? ⟨w.heap.size + 1 + 1 + 1 + 1, 0, none⟩ = some (.pointer (some ⟨gt, 0, none⟩)) ∧ w'.cell? ⟨w.heap.size + 1 + 1 + 1 + 1, 1, none⟩ = some (.pointer (some ⟨gu, 0, none⟩))) ((first | assumption | ((refine ⟨?_, ?_⟩; (first | assumption | exact (Below.refl _ _).drew | exact Below.refl _ _); go_keep)))) (first
    | (go_at_call 61; (with_reducible refine (P1.out _ (by assumption)).mono ?_); rintro e w5 ⟨A1, c1, rfl, hr1, hb5⟩; have hS := hold2 (by assumption) hb5)
    | (go_at_call 61; (with_reducible refine (P2.out _ (by assumption)).mono ?_); rintro e w6 ⟨A2, c2, rfl, hr2, hb6⟩; have hS := hold2 (by assumption) hb6))
  have hr1' : Reads w6 w6.heap.size 1 A1 m (P.map (.int .i64)) := (hr1.below hb6).more hb6.size
  have H6 := H5.out.call hS.1
  have M6 := moved_any (hT5.out.keep hS.1) (hU5.out.keep hS.1) (by rw [hPl.out]; exact hm0) (by rw [hPl.out]; omega) (by rw [hPl.out, hQl.out])
  rw [hPl.out] at M6
  replace M6 := Lib.hid M6
  replace H6 := Lib.hid H6
  obtain ⟨-, t0, t1⟩ := hS
  clear H5 hT5 hU5 P1 P2 hr1 hb5 hb6
  go_wp2_with fail
  refine M6.out.mono ?_
  rintro e w7 ⟨rfl, hb7⟩
  have H7 := H6.out.call hb7
  have hr3 : Reads w7 w7.heap.size 1 A1 m (P.map (.int .i64)) := (hr1'.below hb7).more hb7.size
  have hr4 : Reads w7 w7.heap.size 1 A2 m (Q.map (.int .i64)) := (hr2.below hb7).more hb7.size
  clear hr1' hr2 hb7 H6 M6 t0 t1
  have hmvl := mvC_le P Q m
  have hmul := fun k => muC_le (hasB o) P Q k
  have hmus := muC_succ (hasB o) P Q
  have hmu0 : muC (hasB o) P Q 0 = 0 := by simp [muC]
  have hmk := fun k => Nat.le_trans (hmul k) (mvC_le P Q k)
  have hmulm := hmul m
  obtain ⟨MV, hMV⟩ : ∃ x, mvC P Q m = x := ⟨_, rfl⟩
  rw [hMV] at hmvl hmulm ⊢
  replace hMV := Lib.hid hMV
  go_wp2_with fail
  have X8 : Blk (w7.alloc (.cells (mvArr m (MV : Int) 0 0) 31)) w7.heap.size 31 (mvArr m (MV : Int) 0 0) := Blk.new _ _ _
  have H8 := H7.alloc (.cells (mvArr m (MV : Int) 0 0) 31)
  have hr5 : Reads (w7.alloc (.cells (mvArr m (MV : Int) 0 0) 31)) w7.heap.size 1 A1 m (P.map (.int .i64)) := hr3.alloc (Nat.le_refl _) _
  have hr6 : Reads (w7.alloc (.cells (mvArr m (MV : Int) 0 0) 31)) w7.heap.size 1 A2 m (Q.map (.int .i64)) := hr4.alloc (Nat.le_refl _) _
  have hgx := H7.s.lt
  generalize w7.alloc (.cells (mvArr m (MV : Int) 0 0) 31) = w8 at *
  generalize w7.heap.size = gX at *
  clear hr3 hr4 H7
  replace hmul := Lib.hid hmul
  replace hmus := Lib.hid hmus
  replace hmu0 := Lib.hid hmu0
  replace hmk := Lib.hid hmk
  go_loopw [59] (fun i wr => ∃ k : Nat, k ≤ m ∧ i = .int .i64 (k : Int) ∧ Blk wr gX 31 (mvArr m (MV : Int) ((muC (hasB o) P Q k : Nat) : Int) 0) ∧ ShSt w wr #[.int .i64 v2, .slice B o.length d] #[.int .u64 ka, .int .u64 kb] #[.pointer (some ⟨gt, 0, none⟩), .pointer (some ⟨gu, 0, none⟩)] #[.int .i64 v1, .slice A l.length c, .int .i64 v2, .slice B o.length d] ∧ Reads wr gX 1 A1 m (P.map (.int .i64)) ∧ Reads wr gX 1 A2 m (Q.map (.int .i64))) (fun i _ => m - (intOf i).toNat)
  case atStart => exact ⟨0, by omega, rfl, by rw [hmu0.out]; exact X8, H8, hr5, hr6⟩
  case round =>
    obtain ⟨k, hk, rfl, hX, hH, hp, hq⟩ := hrel
    clear X8 H8 hr5 hr6
    by_cases hlt : k < m
    · have hlti : (k : Int) < (m : Int) := by omega
      have hp' := hp
      have hq' := hq
      rw [← hPl.out] at hp'
      rw [← hQl.out] at hq'
      obtain ⟨aa, rfl, haa, hca⟩ := hp'.int_at (i := k) (by rw [hPl.out]; exact hlt)
      obtain ⟨ab, rfl, hab, hcb⟩ := hq'.int_at (i := k) (by rw [hQl.out]; exact hlt)
      clear hp' hq'
      have hsu := hmus.out k
      have hmk1 := hmk.out k
      obtain ⟨x, hx⟩ : ∃ x, P.getD k 0 = x := ⟨_, rfl⟩
      obtain ⟨y, hy⟩ : ∃ y, Q.getD k 0 = y := ⟨_, rfl⟩
      rw [hx] at hca hsu
      rw [hy] at hcb hsu
      have hE := HS.out x wr hH.below
      obtain ⟨hh, hhe⟩ : ∃ b, hasB o x = b := ⟨_, rfl⟩
      rw [hhe] at hE hsu
      generalize muC (hasB o) P Q k = mu at *
      have b0 := hH.b.cell 0
      have b1 := hH.b.cell 1
      simp only [List.getElem?_toArray, List.getElem?_cons_zero, List.getElem?_cons_succ] at b0 b1
      replace hx := Lib.hid hx
      replace hy := Lib.hid hy
      replace hhe := Lib.hid hhe
      replace hE := Lib.hid hE
      replace hX := Lib.hid hX
      replace hH := Lib.hid hH
      by_cases hxy : x = y
      · have hz : (y != x) = false := by simp [hxy]
        have hz2 : (x != y) = false := by simp [hxy]
        rw [hz2] at hsu
        simp only [Bool.false_and, Bool.false_eq_true, if_false, Nat.add_zero] at hsu
        replace hsu := Lib.hid hsu
        replace hxy := Lib.hid hxy
        clear hz2 hE
        go_wp2_with fail
        go_roundw
        case rel => exact ⟨k + 1, by omega, by go_num, by rw [hsu.out]; exact hX.out, hH.out, hp, hq⟩
        case measure => simp [intOf]; omega
      · have hz : (y != x) = true := by simp; exact fun e => hxy e.symm
        have hz2 : (x != y) = true := by simpa using hxy
        rw [hz2] at hsu
        replace hxy := Lib.hid hxy
        clear hz2
        go_wp2_with fail
        refine hE.out.mono ?_
        rintro e w9 ⟨rfl, hb9⟩
        have hgw := hX.out.lt
        have X9 := hX.out.call hb9
        have H9 := hH.out.call hb9
        have hp9 := hp.below (hb9.mono (by omega))
        have hq9 := hq.below (hb9.mono (by omega))
        clear hX hH hp hq hb9 hE b0 b1 hca hcb
        cases hh
        · simp only [Bool.not_false, Bool.and_true, if_true] at hsu
          have x2 := X9.cell 2
          have q2 := X9.frozen 2
          simp only [List.getElem?_toArray, List.getElem?_cons_zero, List.getElem?_cons_succ] at x2
          replace hsu := Lib.hid hsu
          replace X9 := Lib.hid X9
          replace H9 := Lib.hid H9
          go_wp2_with fail
          have X10 : Blk (w9.setCell ⟨gX, 2, none⟩ (.int .i64 ((mu : Int) + 1))) gX 31 (mvArr m (MV : Int) ((mu : Int) + 1) 0) := by simpa using X9.out.set_ 2 (.int .i64 ((mu : Int) + 1))
          have H10 := H9.out.far hgx 2 (.int .i64 ((mu : Int) + 1))
          have hp10 : Reads (w9.setCell ⟨gX, 2, none⟩ (.int .i64 ((mu : Int) + 1))) gX 1 (some aa) m (P.map (.int .i64)) := hp9.keep fun p hp => World.cell?_of_block (Below.heap_setCell w9 ⟨gX, 2, none⟩ _ _ (by show p.block ≠ gX; omega))
          have hq10 : Reads (w9.setCell ⟨gX, 2, none⟩ (.int .i64 ((mu : Int) + 1))) gX 1 (some ab) m (Q.map (.int .i64)) := hq9.keep fun p hp => World.cell?_of_block (Below.heap_setCell w9 ⟨gX, 2, none⟩ _ _ (by show p.block ≠ gX; omega))
          go_roundw
          case rel => exact ⟨k + 1, by omega, by go_num, by rw [hsu.out]; simpa using X10, H10, hp10, hq10⟩
          case measure => simp [intOf]; omega
        · simp only [Bool.not_true, Bool.and_false, Bool.false_eq_true, if_false, Nat.add_zero] at hsu
          replace hsu := Lib.hid hsu
          go_wp2_with fail
          go_roundw
          case rel => exact ⟨k + 1, by omega, by go_num, by rw [hsu.out]; exact X9, H9, hp9, hq9⟩
          case measure => simp [intOf]; omega
    · obtain rfl : k = m := by omega
      have hlti : ¬ (k : Int) < (k : Int) := by omega
      have hsub : ((MV : Int) - ((muC (hasB o) P Q k : Nat) : Int)) = ((MV - muC (hasB o) P Q k : Nat) : Int) := by omega
      obtain ⟨mu, hMU⟩ : ∃ x, muC (hasB o) P Q k = x := ⟨_, rfl⟩
      obtain ⟨D, hD⟩ : ∃ x, MV - mu = x := ⟨_, rfl⟩
      rw [hMU] at hsub hX hmulm
      rw [hD] at hsub
      replace hMU := Lib.hid hMU
      replace hD := Lib.hid hD
      have X2 : Blk (wr.setCell ⟨gX, 3, none⟩ (.int .i64 (D : Int))) gX 31 (mvArr k (MV : Int) (mu : Int) (D : Int)) := by simpa using hX.set_ 3 (.int .i64 (D : Int))
      have H2 := hH.far hgx 3 (.int .i64 (D : Int))
      have hb2 := H2.below
      obtain ⟨⟨a0, a1, a2, a3⟩, q0, q1, q2, q3⟩ := hX.four
      obtain ⟨⟨c0, c1, c2, c3⟩, -⟩ := X2.four
      obtain ⟨⟨b0, b1, b2, b3⟩, s0, s1, s2, s3⟩ := H2.r.four
      have hfin := blk_set4 (a0 := .int .i64 (k : Int)) (a1 := .int .i64 (MV : Int)) (a2 := .int .i64 (mu : Int)) (a3 := .int .i64 (D : Int)) H2.r
      obtain ⟨⟨f0, f1, f2, f3⟩, -⟩ := hfin.four
      clear hX hH X2 H2 hfin hp hq
      have hm2 : (0 : Int) ≤ (MV : Int) - (mu : Int) := by omega
      replace hmulm := Lib.hid hmulm
      go_wp2_with fail
      refine bodyPost_ret (v := .tuple #[.agg (mvArr k (MV : Int) (mu : Int) (D : Int)), .int .i64 0]) (by simp [results, Try.results13, go_sem, f0, f1, f2, f3]) rfl ?_
      exact ⟨by rw [hMV.out, hMU.out, hD.out], (((hb2.setCell (by simp; omega) _).setCell (by simp; omega) _).setCell (by simp; omega) _).setCell (by simp; omega) _⟩
end Go.Proofs.Ytkpkjpdhlmjchaa
