/- table: the document's Find. -/
import Derived.Test.YtmkknjhalcocmaaGreatJ29
import Derived.Laws.StructEq
namespace Go.Proofs.YtmkknjhalcocmaaGreat
open Go Go.RowKit Go.Deep Go.Maps Go.ChangeMaps

section
variable {w w' w1 w2 : World} {g n : Nat} {b : Int} {c : TCfg} {s : TSt} {X X1 X2 F : Nat → Prop}
set_option maxRecDepth 100000 in
set_option maxHeartbeats 16000000 in
theorem ddtab_find (h : DTabP w g n b c (dOf n s) X) (hti : TI n s) (t : Tup) (i low bt : Int) :
    Calls Tryz.prog 25 #[.pointer (some ⟨g, 0, none⟩), t.val, .int .i64 i, .int .u64 low, .int .i64 bt] w fun e w' => e = .returned (.tuple #[(findV n s t i low bt).val, .bool (findOk n s t i low bt)]) ∧ DTo w w' g n b c (dOf n (lookS n i s)) X := by
  have hn := h.n4096
  have hXlt : ∀ y, X y → y < w.heap.size := fun y hy => h.lt hy
  have P0 := Blk.new w 37 t.cells.toArray
  have hb0 : Below w.heap.size w (w.alloc (.cells t.cells.toArray 37)) := below_alloc (Below.refl _ _) _
  have B1 := Blk.new (w.alloc (.cells t.cells.toArray 37)) 55 slt0.entA
  have hb1 : Below w.heap.size w ((w.alloc (.cells t.cells.toArray 37)).alloc (.cells slt0.entA 55)) := below_alloc hb0 _
  have P1 := P0.alloc (.cells slt0.entA 55)
  have h1 := h.call hb1
  have hzz := B1.lt
  rw [World.size_alloc] at B1 hzz
  clear h hb0 P0
  replace B1 := Lib.hid B1
  replace hti := Lib.hid hti
  replace hXlt := Lib.hid hXlt
  replace h1 := Lib.hid h1
  go_enter Tryz.func25, Tryz.ntmps25
  go_upto_region 1 with fail
  change Code.wp _ _ _ _ ((w.alloc (.cells t.cells.toArray 37)).alloc (.cells slt0.entA 55))
  obtain ⟨r, hr⟩ : ∃ r, w.heap.size + 1 = r := ⟨_, rfl⟩
  obtain ⟨p, hp⟩ : ∃ p, w.heap.size = p := ⟨_, rfl⟩
  rw [hr] at B1 hzz
  rw [hp] at P1
  generalize (w.alloc (.cells t.cells.toArray 37)).alloc (.cells slt0.entA 55) = w1 at *
  try rw [hr]
  try rw [hp]
  have LK := Lib.hid (ddtab_look h1.out i)
  go_upto_region 2 with (go_at_call 49; (with_reducible refine LK.out.mono ?_); rintro e w2 ⟨rfl, h2, hc2⟩)
  have B2 := B1.out.chg hc2 (fun e => by have := hXlt.out r e; omega)
  have P2 := P1.chg hc2 (fun e => by have := hXlt.out p e; omega)
  have hT2 := XTo.of hc2
  have hz2 := hc2.size
  have p0 : w2.cell? ⟨p, 0, none⟩ = some (.int .i64 t.p) := P2.cell 0
  have p1 : w2.cell? ⟨p, 1, none⟩ = some (.bool t.v) := P2.cell 1
  have p2 : w2.cell? ⟨p, 2, none⟩ = some (.int .u64 t.hi) := P2.cell 2
  have p3 : w2.cell? ⟨p, 3, none⟩ = some (.int .u64 t.lo) := P2.cell 3
  have p4 : w2.cell? ⟨p, 4, none⟩ = some (.bool t.v') := P2.cell 4
  have p5 : w2.cell? ⟨p, 5, none⟩ = some (.int .u64 t.hi') := P2.cell 5
  have p6 : w2.cell? ⟨p, 6, none⟩ = some (.int .u64 t.lo') := P2.cell 6
  have p7 : w2.cell? ⟨p, 7, none⟩ = some (.int .i64 t.sp) := P2.cell 7
  have p8 : w2.cell? ⟨p, 8, none⟩ = some (.int .i64 t.dp) := P2.cell 8
  clear LK hc2 h1 P1 P2 B1
  have ht2 := hti.out.look i
  have hn2 := Nat.le_trans (liveE_len (lookS n i s).E n) hn
  replace hT2 := Lib.hid hT2
  replace B2 := Lib.hid B2
  by_cases hC : closeOk n s i = true
  · have hC2 := hC
    unfold closeOk lookOk at hC2
    rw [Bool.and_eq_true, decide_eq_true_eq] at hC2
    obtain ⟨k, rfl⟩ : ∃ k : Nat, i = (k : Int) := ⟨i.toNat, by omega⟩
    rw [Int.toNat_natCast] at hC2
    have hk : k < n := by omega
    obtain ⟨j, hj, hje, hjn⟩ := live_idx (E := (lookS n k s).E) ht2.sl hk (by rw [lookS_E]; exact hC2.2)
    have AT := Lib.hid (dtab_at h2 (Nat.le_trans hn2 (by omega)) k j hj (by rw [hje, lookS_E]; exact hti.out.sl k hk) hjn)
    obtain ⟨_, _, _, A, q, -, -, c7, -, -, -, hOw, -, -, -⟩ := h2.cells
    obtain ⟨ad, rfl, -, hc⟩ := hOw.reads.rec_at Slt.ent (fun _ => rfl) hj
    have hO1 : findOk n s t k low bt = (decide (0 ≤ bt ∧ bt ≤ 63) && (tupB (s.E k).t t && (bits BinOp.and IntKind.u64 (s.E k).gen (maskI bt) == low))) := by unfold findOk; rw [hC, Int.toNat_natCast, Bool.true_and]
    have hV1 : findV n s t k low bt = if findOk n s t k low bt then s.E k else slt0 := by unfold findV; rw [Int.toNat_natCast]
    obtain ⟨x, hx⟩ : ∃ x, s.E k = x := ⟨_, rfl⟩
    rw [hje, lookS_E, hx] at hc
    rw [hx] at hO1 hV1
    obtain ⟨ll, hll⟩ : ∃ ll, (liveE (lookS n k s).E n).length = ll := ⟨_, rfl⟩
    dsimp only [dOf] at c7
    have hj2 : j < ll := hll ▸ hj
    rw [hll] at c7
    have hji : (j : Int) < (ll : Int) := by exact_mod_cast hj2
    have hj0 : decide ((j : Int) < 0) = false := by simp
    have hj00 : (0 : Int) ≤ (j : Int) := by omega
    have e0 : w2.cell? (ad.add (j * 14)) = some (.int .i64 x.t.p) := hc 0 _ rfl
    have e1 : w2.cell? ⟨(ad.add (j * 14)).block, (ad.add (j * 14)).off + 1, none⟩ = some (.bool x.t.v) := hc 1 _ rfl
    have e2 : w2.cell? ⟨(ad.add (j * 14)).block, (ad.add (j * 14)).off + 2, none⟩ = some (.int .u64 x.t.hi) := hc 2 _ rfl
    have e3 : w2.cell? ⟨(ad.add (j * 14)).block, (ad.add (j * 14)).off + 3, none⟩ = some (.int .u64 x.t.lo) := hc 3 _ rfl
    have e4 : w2.cell? ⟨(ad.add (j * 14)).block, (ad.add (j * 14)).off + 4, none⟩ = some (.bool x.t.v') := hc 4 _ rfl
    have e5 : w2.cell? ⟨(ad.add (j * 14)).block, (ad.add (j * 14)).off + 5, none⟩ = some (.int .u64 x.t.hi') := hc 5 _ rfl
    have e6 : w2.cell? ⟨(ad.add (j * 14)).block, (ad.add (j * 14)).off + 6, none⟩ = some (.int .u64 x.t.lo') := hc 6 _ rfl
    have e7 : w2.cell? ⟨(ad.add (j * 14)).block, (ad.add (j * 14)).off + 7, none⟩ = some (.int .i64 x.t.sp) := hc 7 _ rfl
    have e8 : w2.cell? ⟨(ad.add (j * 14)).block, (ad.add (j * 14)).off + 8, none⟩ = some (.int .i64 x.t.dp) := hc 8 _ rfl
    have e12 : w2.cell? ⟨(ad.add (j * 14)).block, (ad.add (j * 14)).off + 12, none⟩ = some (.int .u64 x.gen) := hc 12 _ rfl
    replace hc := Lib.hid hc
    clear hOw hje hjn hj hn2 hll hC hC2 hx
    replace h2 := Lib.hid h2
    have hE := fun W => tup_neq x.t t W
    have hG : Tryz.prog.eqGuardType Tryz.prog.depth 37 = false := by kernel_rfl
    have MK := Lib.hid fun W => (refmask_any bt W).mono fun _ _ h => And.intro h.1 h.2.symm
    obtain ⟨tb, htb⟩ : ∃ tb, tupB x.t t = tb := ⟨_, rfl⟩
    obtain ⟨mv, hmv⟩ : ∃ mv, maskI bt = mv := ⟨_, rfl⟩
    rw [htb] at hE hO1
    rw [hmv] at MK hO1
    obtain ⟨gm, hgm⟩ : ∃ gm, bits BinOp.and IntKind.u64 x.gen mv = gm := ⟨_, rfl⟩
    rw [hgm] at hO1
    by_cases b1 : bt < 0
    · have x1 : decide (bt < 0) = true := by simpa using b1
      have hO : findOk n s t k low bt = false := by rw [hO1, decide_eq_false (by omega)]; rfl
      have hV : findV n s t k low bt = slt0 := by rw [hV1, hO]; rfl
      replace hO := Lib.hid hO
      replace hV := Lib.hid hV
      clear e0 e1 e2 e3 e4 e5 e6 e7 e8 e12 hE hG MK p0 p1 p2 p3 p4 p5 p6 p7 p8 hO1 hV1 hgm b1 c7 hc
      go_upto_region 3 with (go_at_call 53; (with_reducible refine AT.out.mono ?_); rintro e w3 ⟨rfl, rfl⟩)
      go_quiet (fail)
      have hbq := below_drewN (Below.refl w2.heap.size w2) nq
      have B3 := B2.out.call hbq
      have hT3 : DTo w1 (w2.drewN nq) g n b c (dOf n (lookS n k s)) X := DTo.mk (h2.out.call hbq) (hT2.out.trans (XTo.call hbq))
      replace hT3 := Lib.hid hT3
      clear hbq B2 h2 AT
      generalize w2.drewN nq = w3 at *
      go_wp2_with (refine wpList_store_entB rfl rfl (.tmp 10) (.tmp 56) rfl B3 slt0 rfl rfl ?_)
      change bodyPost _ _ _ _ _ (setEnt w3 r slt0)
      obtain ⟨B6, hc6⟩ := setEnt_blk B3 slt0
      have hTz := DTo.fin hXlt.out hb1 hT3.out hc6 (by omega) (by omega)
      generalize setEnt w3 r slt0 = wz at *
      obtain ⟨r0, r1, r2, r3, r4, r5, r6, r7, r8, r9, r10, r11, r12, r13, -⟩ := ent_blk B6
      clear B6 hc6
      replace hTz := Lib.hid hTz
      refine bodyPost_ret (v := .tuple #[(slt0).val, .bool false]) (by simp [results, Tryz.results25, go_sem, r0, r1, r2, r3, r4, r5, r6, r7, r8, r9, r10, r11, r12, r13]) rfl ?_
      exact ⟨by rw [hV.out, hO.out], hTz.out⟩
    · have x1 : decide (bt < 0) = false := by simpa using b1
      by_cases b2 : 63 < bt
      · have x2 : decide (63 < bt) = true := by simpa using b2
        have hO : findOk n s t k low bt = false := by rw [hO1, decide_eq_false (by omega)]; rfl
        have hV : findV n s t k low bt = slt0 := by rw [hV1, hO]; rfl
        replace hO := Lib.hid hO
        replace hV := Lib.hid hV
        clear e0 e1 e2 e3 e4 e5 e6 e7 e8 e12 hE hG MK p0 p1 p2 p3 p4 p5 p6 p7 p8 hO1 hV1 hgm b1 b2 c7 hc
        go_upto_region 3 with (go_at_call 53; (with_reducible refine AT.out.mono ?_); rintro e w3 ⟨rfl, rfl⟩)
        go_quiet (fail)
        have hbq := below_drewN (Below.refl w2.heap.size w2) nq
        have B3 := B2.out.call hbq
        have hT3 : DTo w1 (w2.drewN nq) g n b c (dOf n (lookS n k s)) X := DTo.mk (h2.out.call hbq) (hT2.out.trans (XTo.call hbq))
        replace hT3 := Lib.hid hT3
        clear hbq B2 h2 AT
        generalize w2.drewN nq = w3 at *
        go_wp2_with (refine wpList_store_entB rfl rfl (.tmp 10) (.tmp 56) rfl B3 slt0 rfl rfl ?_)
        change bodyPost _ _ _ _ _ (setEnt w3 r slt0)
        obtain ⟨B6, hc6⟩ := setEnt_blk B3 slt0
        have hTz := DTo.fin hXlt.out hb1 hT3.out hc6 (by omega) (by omega)
        generalize setEnt w3 r slt0 = wz at *
        obtain ⟨r0, r1, r2, r3, r4, r5, r6, r7, r8, r9, r10, r11, r12, r13, -⟩ := ent_blk B6
        clear B6 hc6
        replace hTz := Lib.hid hTz
        refine bodyPost_ret (v := .tuple #[(slt0).val, .bool false]) (by simp [results, Tryz.results25, go_sem, r0, r1, r2, r3, r4, r5, r6, r7, r8, r9, r10, r11, r12, r13]) rfl ?_
        exact ⟨by rw [hV.out, hO.out], hTz.out⟩
      · have x2 : decide (63 < bt) = false := by simpa using b2
        rw [decide_eq_true (show 0 ≤ bt ∧ bt ≤ 63 by omega), Bool.true_and] at hO1
        cases tb
        · have hO : findOk n s t k low bt = false := by rw [hO1]; rfl
          have hV : findV n s t k low bt = slt0 := by rw [hV1, hO]; rfl
          replace hO := Lib.hid hO
          replace hV := Lib.hid hV
          replace hc := Lib.hid hc
          clear hO1 hV1 b1 b2
          replace hgm := Lib.hid hgm
          go_upto_region 3 with (go_at_call 53; (with_reducible refine AT.out.mono ?_); rintro e w3 ⟨rfl, rfl⟩)
          go_quiet ((go_at_call 54; with_reducible exact Calls.quiet_of_same (MK.out _)))
          have hbq := below_drewN (Below.refl w2.heap.size w2) nq
          have B3 := B2.out.call hbq
          have hT3 : DTo w1 (w2.drewN nq) g n b c (dOf n (lookS n k s)) X := DTo.mk (h2.out.call hbq) (hT2.out.trans (XTo.call hbq))
          replace hT3 := Lib.hid hT3
          clear hbq B2 h2 AT c7 hc p0 p1 p2 p3 p4 p5 p6 p7 p8 e0 e1 e2 e3 e4 e5 e6 e7 e8 e12 hE hG MK
          generalize w2.drewN nq = w3 at *
          go_wp2_with (refine wpList_store_entB rfl rfl (.tmp 10) (.tmp 56) rfl B3 slt0 rfl rfl ?_)
          change bodyPost _ _ _ _ _ (setEnt w3 r slt0)
          obtain ⟨B6, hc6⟩ := setEnt_blk B3 slt0
          have hTz := DTo.fin hXlt.out hb1 hT3.out hc6 (by omega) (by omega)
          generalize setEnt w3 r slt0 = wz at *
          obtain ⟨r0, r1, r2, r3, r4, r5, r6, r7, r8, r9, r10, r11, r12, r13, -⟩ := ent_blk B6
          clear B6 hc6
          replace hTz := Lib.hid hTz
          refine bodyPost_ret (v := .tuple #[(slt0).val, .bool false]) (by simp [results, Tryz.results25, go_sem, r0, r1, r2, r3, r4, r5, r6, r7, r8, r9, r10, r11, r12, r13]) rfl ?_
          exact ⟨by rw [hV.out, hO.out], hTz.out⟩
        · rw [Bool.true_and] at hO1
          by_cases hgl : gm = low
          · have hO : findOk n s t k low bt = true := by rw [hO1]; simpa using hgl
            have hV : findV n s t k low bt = x := by rw [hV1, hO]; rfl
            have x3 : (gm != low) = false := by simpa using hgl
            replace hO := Lib.hid hO
            replace hV := Lib.hid hV
            clear hO1 hV1 b1 b2 hgl
            go_upto_region 3 with (go_at_call 53; (with_reducible refine AT.out.mono ?_); rintro e w3 ⟨rfl, rfl⟩)
            go_quiet ((go_at_call 54; with_reducible exact Calls.quiet_of_same (MK.out _)))
            have hbq := below_drewN (Below.refl w2.heap.size w2) nq
            have B3 := B2.out.call hbq
            have hT3 : DTo w1 (w2.drewN nq) g n b c (dOf n (lookS n k s)) X := DTo.mk (h2.out.call hbq) (hT2.out.trans (XTo.call hbq))
            replace hT3 := Lib.hid hT3
            have hcq : ∀ j' u, x.ent[j']? = some u → (w2.drewN nq).cell? ((ad.add (j * 14)).add j') = some u := fun j' u hu => (hbq.cell (block_lt_of_cell (hc.out j' u hu))).trans (hc.out j' u hu)
            have c7q := (hbq.cell (block_lt_of_cell c7)).trans c7
            replace hcq := Lib.hid hcq
            clear hbq B2 h2 AT c7 hc p0 p1 p2 p3 p4 p5 p6 p7 p8 e0 e1 e2 e3 e4 e5 e6 e7 e8 e12 hE hG MK
            generalize w2.drewN nq = w3 at *
            go_wp2_with (first
              | (refine wpList_load_entR rfl (.tmp 62) rfl (ad.add (j * 14)) rfl x hcq.out ?_)
              | (refine wpList_store_entB rfl rfl (.tmp 10) (.tmp 63) rfl B3 x rfl rfl ?_))
            change bodyPost _ _ _ _ _ (setEnt w3 r x)
            obtain ⟨B6, hc6⟩ := setEnt_blk B3 x
            have hTz := DTo.fin hXlt.out hb1 hT3.out hc6 (by omega) (by omega)
            generalize setEnt w3 r x = wz at *
            obtain ⟨r0, r1, r2, r3, r4, r5, r6, r7, r8, r9, r10, r11, r12, r13, -⟩ := ent_blk B6
            clear B6 hc6
            replace hTz := Lib.hid hTz
            refine bodyPost_ret (v := .tuple #[(x).val, .bool true]) (by simp [results, Tryz.results25, go_sem, r0, r1, r2, r3, r4, r5, r6, r7, r8, r9, r10, r11, r12, r13]) rfl ?_
            exact ⟨by rw [hV.out, hO.out], hTz.out⟩
          · have hO : findOk n s t k low bt = false := by rw [hO1]; simpa using hgl
            have hV : findV n s t k low bt = slt0 := by rw [hV1, hO]; rfl
            have x3 : (gm != low) = true := by simpa using hgl
            replace hO := Lib.hid hO
            replace hV := Lib.hid hV
            clear hO1 hV1 b1 b2 hgl
            go_upto_region 3 with (go_at_call 53; (with_reducible refine AT.out.mono ?_); rintro e w3 ⟨rfl, rfl⟩)
            go_quiet ((go_at_call 54; with_reducible exact Calls.quiet_of_same (MK.out _)))
            have hbq := below_drewN (Below.refl w2.heap.size w2) nq
            have B3 := B2.out.call hbq
            have hT3 : DTo w1 (w2.drewN nq) g n b c (dOf n (lookS n k s)) X := DTo.mk (h2.out.call hbq) (hT2.out.trans (XTo.call hbq))
            replace hT3 := Lib.hid hT3
            clear hbq B2 h2 AT c7 hc p0 p1 p2 p3 p4 p5 p6 p7 p8 e0 e1 e2 e3 e4 e5 e6 e7 e8 e12 hE hG MK
            generalize w2.drewN nq = w3 at *
            go_wp2_with (refine wpList_store_entB rfl rfl (.tmp 10) (.tmp 56) rfl B3 slt0 rfl rfl ?_)
            change bodyPost _ _ _ _ _ (setEnt w3 r slt0)
            obtain ⟨B6, hc6⟩ := setEnt_blk B3 slt0
            have hTz := DTo.fin hXlt.out hb1 hT3.out hc6 (by omega) (by omega)
            generalize setEnt w3 r slt0 = wz at *
            obtain ⟨r0, r1, r2, r3, r4, r5, r6, r7, r8, r9, r10, r11, r12, r13, -⟩ := ent_blk B6
            clear B6 hc6
            replace hTz := Lib.hid hTz
            refine bodyPost_ret (v := .tuple #[(slt0).val, .bool false]) (by simp [results, Tryz.results25, go_sem, r0, r1, r2, r3, r4, r5, r6, r7, r8, r9, r10, r11, r12, r13]) rfl ?_
            exact ⟨by rw [hV.out, hO.out], hTz.out⟩
  · have hO : findOk n s t i low bt = false := by unfold findOk; rw [show closeOk n s i = false by simpa using hC]; rfl
    have hV : findV n s t i low bt = slt0 := by unfold findV; rw [hO]; rfl
    have AT := Lib.hid (dtab_at_no h2 (Nat.le_trans hn2 (by omega)) i (fun y hy => live_none (E := (lookS n i s).E) ht2.sl (fun hh => hC (by
      unfold closeOk lookOk
      rw [Bool.and_eq_true, decide_eq_true_eq]
      rw [lookS_E] at hh
      exact ⟨⟨hh.1, hh.2.1⟩, hh.2.2⟩)) hy))
    replace hO := Lib.hid hO
    replace hV := Lib.hid hV
    clear hC hn2 p0 p1 p2 p3 p4 p5 p6 p7 p8
    replace h2 := Lib.hid h2
    go_upto_region 3 with (go_at_call 53; (with_reducible refine AT.out.mono ?_); rintro e w3 ⟨rfl, rfl⟩)
    go_quiet (fail)
    have hbq := below_drewN (Below.refl w2.heap.size w2) nq
    have B3 := B2.out.call hbq
    have hT3 : DTo w1 (w2.drewN nq) g n b c (dOf n (lookS n i s)) X := DTo.mk (h2.out.call hbq) (hT2.out.trans (XTo.call hbq))
    replace hT3 := Lib.hid hT3
    clear hbq B2 h2 AT
    generalize w2.drewN nq = w3 at *
    go_wp2_with (refine wpList_store_entB rfl rfl (.tmp 10) (.tmp 56) rfl B3 slt0 rfl rfl ?_)
    change bodyPost _ _ _ _ _ (setEnt w3 r slt0)
    obtain ⟨B6, hc6⟩ := setEnt_blk B3 slt0
    have hTz := DTo.fin hXlt.out hb1 hT3.out hc6 (by omega) (by omega)
    generalize setEnt w3 r slt0 = wz at *
    obtain ⟨r0, r1, r2, r3, r4, r5, r6, r7, r8, r9, r10, r11, r12, r13, -⟩ := ent_blk B6
    clear B6 hc6
    replace hTz := Lib.hid hTz
    refine bodyPost_ret (v := .tuple #[(slt0).val, .bool false]) (by simp [results, Tryz.results25, go_sem, r0, r1, r2, r3, r4, r5, r6, r7, r8, r9, r10, r11, r12, r13]) rfl ?_
    exact ⟨by rw [hV.out, hO.out], hTz.out⟩
end
end Go.Proofs.YtmkknjhalcocmaaGreat
