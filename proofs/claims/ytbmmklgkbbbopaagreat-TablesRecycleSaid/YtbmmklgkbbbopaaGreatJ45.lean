/- tables: the law TablesFind, called. tables: the law TablesFind, called: one step. tables: the law TablesFind, called: a step that finds. -/
import Derived.Test.YtbmmklgkbbbopaaGreatJ44
import Derived.Deep.CutRange
import Derived.Deep.CutBlock
import Derived.Deep.LoopGhost
import Derived.Test.YtbmmklgkbbbopaaGreatJ4
import Derived.Maps.RangeWalk
import Derived.Test.YtbmmklgkbbbopaaGreatJ36
namespace Go.Proofs.YtbmmklgkbbbopaaGreat
open Go Go.RowKit Go.Deep Go.Maps Go.ChangeMaps

set_option maxRecDepth 100000 in
set_option maxHeartbeats 64000000 in
/-- The walk of tablesFind_yes, but for 2 stretches. -/
def tablesFind_pack : (P1 : Prop) ×' (P2 : Prop) ×' (Hid P1 → Hid P2 → ∀ (r : TRule) (l : List T20) (B : Option Addr) (d : Nat) (w : World) (_hr : Reads w w.heap.size 14 B l.length (l.flatMap T20.cells)) (_hwf : ∀ s ∈ l, t20Wf s) (_hy : ruleOk r = true) (_hz : small20 r = true) (_h30 : l.length ≤ 30),
    Calls Tryz.prog 4 #[r.val, .slice B l.length d] w fun e w' => e = .returned (.bool true) ∧ Below w.heap.size w w') := by
  apply PSigma.mk
  apply PSigma.mk
  · intro Q1 Q2 r l B d w hr hwf hy hz h30
    have RR := Lib.hid fun W => ref20_right r W
    have SM := Lib.hid fun W => ref20_small r W
    have R0 := Blk.new w 30 r.cells.toArray
    have hb0 : Below w.heap.size w (w.alloc (.cells r.cells.toArray 30)) := below_alloc (Below.refl _ _) _
    rw [hy] at RR
    rw [hz] at SM
    have e30 : decide ((30 : Int) < (l.length : Int)) = false := by simp; omega
    have e31 : decide (30 < l.length) = false := by simp; omega
    have OF := Lib.hid fun W => law20_of r W
    have NW := Lib.hid fun W (hb : Below w.heap.size w W) (hK : ∀ b, b = w.heap.size → b < W.heap.size) => tabsn_new (w0 := w) (w := W) (K := K20 w.heap.size none) hy hb (fun b hb => hb.elim (hK b) (fun h => absurd h inB_none))
    have hlay := ruleOk_lay hy
    obtain ⟨sb, gb, hsb, hgb, hsb12, -⟩ := layOk_nat hlay
    have hsm := hz
    unfold small20 at hsm
    rw [Bool.and_eq_true, decide_eq_true_eq, decide_eq_true_eq] at hsm
    obtain ⟨p, hp⟩ : ∃ p : Nat, r.np.toNat = p := ⟨_, rfl⟩
    obtain ⟨n, hn⟩ : ∃ n : Nat, 2 ^ r.sl.toNat = n := ⟨_, rfl⟩
    rw [hp, hn] at NW
    have RC := Lib.hid fun W (hb : Below (w.alloc (.cells r.cells.toArray 30)).heap.size (w.alloc (.cells r.cells.toArray 30)) W) => RuleAt.of (R0.call hb)
    obtain ⟨c0, c1, c2, c3, c4, c5, c6, c7, c8, c9, c10⟩ := RC.out _ (Below.refl _ _)
    have hnp : r.np = (p : Int) := by
      have := hy
      unfold ruleOk at this
      simp only [Bool.and_eq_true, decide_eq_true_eq] at this
      omega
    replace hy := Lib.hid hy
    replace hr := Lib.hid hr
    replace hwf := Lib.hid hwf
    have hn8 : n ≤ 8 := by
      rw [← hn]
      have : r.sl.toNat ≤ 3 := by omega
      exact Nat.le_trans (Nat.pow_le_pow_right (by omega) this) (by decide)
    replace hn := Lib.hid hn
    clear hz hlay hgb
    obtain ⟨wd, sl, gn, ka, kb, np, a, b, c, d2, G⟩ := r
    dsimp only at *
    subst hsb
    subst hnp
    go_enter Tryz.func4, Tryz.ntmps4
    go_upto_region 1 with fail
    change Code.wp _ _ _ _ (w.alloc (.cells (TRule.cells ⟨wd, sb, gn, ka, kb, p, a, b, c, d2, G⟩).toArray 30))
    have hw0 : (w.alloc (.cells (TRule.cells ⟨wd, sb, gn, ka, kb, p, a, b, c, d2, G⟩).toArray 30)).heap.size = w.heap.size + 1 := World.size_alloc _ _
    generalize w.alloc (.cells (TRule.cells ⟨wd, sb, gn, ka, kb, p, a, b, c, d2, G⟩).toArray 30) = w0 at *
    obtain ⟨rb, hrb⟩ : ∃ r, w.heap.size = r := ⟨_, rfl⟩
    have hrw : w.heap.size ≤ rb := Nat.le_of_eq hrb
    rw [hrb] at R0 NW hw0 RC c0 c1 c2 c3 c4 c5 c6 c7 c8 c9 c10
    try rw [hrb]
    go_upto_region 4 with (first
      | (go_at_call 6; (with_reducible refine (RR.out _).mono ?_); rintro e w1 ⟨rfl, hb1⟩; clear c0 c1 c2 c3 c4 c5 c6 c7 c8 c9 c10; obtain ⟨c0, c1, c2, c3, c4, c5, c6, c7, c8, c9, c10⟩ := RC.out _ hb1)
      | (go_at_call 7; (with_reducible refine (SM.out _).mono ?_); rintro e w3 ⟨rfl, hb3⟩; clear c0 c1 c2 c3 c4 c5 c6 c7 c8 c9 c10; obtain ⟨c0, c1, c2, c3, c4, c5, c6, c7, c8, c9, c10⟩ := RC.out _ (below_chain hb3 hb1))
      | (go_at_call 10; (with_reducible refine (OF.out _).mono ?_); rintro e w4 ⟨rfl, hb4⟩)
      | (go_at_call 9; (with_reducible refine (NW.out _ (by rw [← hrb]; exact below_chain hb4 (below_chain hb3 (below_chain hb1 hb0))) (fun b hb => by have := (below_chain hb4 (below_chain hb3 hb1)).size; omega)).mono ?_); rintro e w5 ⟨g, rfl, hT0, hb5⟩))
    have hb35 := below_chain hb5 (below_chain hb4 (below_chain hb3 hb1))
    have R5 := R0.call hb35
    obtain ⟨R, hR⟩ : ∃ R : TRule, (⟨wd, sb, gn, ka, kb, p, a, b, c, d2, G⟩ : TRule) = R := ⟨_, rfl⟩
    rw [hR] at hT0 hy R5
    have hnR : n = 2 ^ R.sl.toNat := by rw [← hn.out, ← hR]
    have hnpR : R.np = (p : Int) := by rw [← hR]
    have hLI0 := LI.new R p n
    have hp1 := hT0.rng
    replace hnR := Lib.hid hnR
    replace hnpR := Lib.hid hnpR
    replace hR := Lib.hid hR
    replace hT0 := Lib.hid hT0
    replace hLI0 := Lib.hid hLI0
    clear c0 c1 c2 c3 c4 c5 c6 c7 c8 c9 c10 RR SM OF NW RC R0 hb0 hb1 hb3 hb4 hb5 hb35 hn hw0
    go_wp2_with fail
    go_loopg [7, 8] l.length (fun gk cv iv wr => ∃ (k : Nat) (S : Nat → TSt) (A : Option Addr) (q : Nat) (cs : List Int), k + gk = l.length ∧ iv = .int .i64 (k : Nat) ∧ cv = .slice A cs.length q ∧ OwnU wr w.heap.size A q cs ∧ ¬ InB A rb ∧ (∀ x ∈ cs, 0 ≤ x ∧ x < 18446744073709551616) ∧ cs.length ≤ k ∧ TabsN w wr g R p n S (K20 rb A) ∧ LI R p n S (2 * (k : Int)) ∧ Blk wr rb 30 R.cells.toArray)
    case atStart => exact ⟨0, _, none, 0, [], by omega, rfl, rfl, OwnA.nil _ _, inB_none, fun x hx => (by cases hx), Nat.le_refl _, hT0.out, hLI0.out, R5⟩
    case round =>
      obtain ⟨k, S, A, q, cs, hk, rfl, rfl, hO, hnA, hcs, hcl, hT, hL, hRb⟩ := hrel
      clear hT0 R5
      by_cases hlt : k < l.length
      · have hlti : (k : Int) < (l.length : Int) := by omega
        obtain ⟨ad, st, rfl, hbl, hst, c0, c1, c2, c3, c4, c5, c6, c7, c8, c9, c10, c11, c12, c13⟩ := t20_at14 (hr.out.below hT.below) hlt
        have hwfs := hwf.out st (List.mem_of_getElem? hst)
        have hAl : ∀ b, InB A b → w.heap.size ≤ b ∧ b < wr.heap.size := fun b hb => hO.block hb
        have hrbl := hRb.lt
        replace hT := Lib.hid hT
        replace hO := Lib.hid hO
        replace hRb := Lib.hid hRb
        replace hL := Lib.hid hL
        replace hwfs := Lib.hid hwfs
        replace hAl := Lib.hid hAl
        replace hcs := Lib.hid hcs
        go_upto_region 11 with fail
        change Code.wp _ _ _ _ (wr.alloc (.cells st.cells.toArray 49))
        have Sb := Blk.new wr 49 st.cells.toArray
        have hba := below_alloc (Below.refl wr.heap.size wr) (.cells st.cells.toArray 49)
        have hT1 := hT.out.alloc (.cells st.cells.toArray 49)
        have hO1 := hO.out.call hba
        have hRb1 := hRb.out.call hba
        obtain ⟨rs, hrs⟩ : ∃ r, wr.heap.size = r := ⟨_, rfl⟩
        have hz1 : (wr.alloc (.cells st.cells.toArray 49)).heap.size = rs + 1 := by rw [World.size_alloc, hrs]
        rw [hrs] at Sb hT1 hAl hrbl
        try rw [hrs]
        generalize wr.alloc (.cells st.cells.toArray 49) = w6 at *
        clear c0 c1 c2 c3 c4 c5 c6 c7 c8 c9 c10 c11 c12 c13 hT hO hRb hba hst hbl
        have s0 : w6.cell? ⟨rs, 0, none⟩ = some (.int .i64 st.kd) := Sb.cell 0
        have s1 : w6.cell? ⟨rs, 1, none⟩ = some (.int .i64 st.tu.p) := Sb.cell 1
        have s2 : w6.cell? ⟨rs, 2, none⟩ = some (.bool st.tu.v) := Sb.cell 2
        have s3 : w6.cell? ⟨rs, 3, none⟩ = some (.int .u64 st.tu.hi) := Sb.cell 3
        have s4 : w6.cell? ⟨rs, 4, none⟩ = some (.int .u64 st.tu.lo) := Sb.cell 4
        have s5 : w6.cell? ⟨rs, 5, none⟩ = some (.bool st.tu.v') := Sb.cell 5
        have s6 : w6.cell? ⟨rs, 6, none⟩ = some (.int .u64 st.tu.hi') := Sb.cell 6
        have s7 : w6.cell? ⟨rs, 7, none⟩ = some (.int .u64 st.tu.lo') := Sb.cell 7
        have s8 : w6.cell? ⟨rs, 8, none⟩ = some (.int .i64 st.tu.sp) := Sb.cell 8
        have s9 : w6.cell? ⟨rs, 9, none⟩ = some (.int .i64 st.tu.dp) := Sb.cell 9
        have s10 : w6.cell? ⟨rs, 10, none⟩ = some (.int .i64 st.n) := Sb.cell 10
        have s11 : w6.cell? ⟨rs, 11, none⟩ = some (.int .i64 st.bk) := Sb.cell 11
        have s12 : w6.cell? ⟨rs, 12, none⟩ = some (.int .u64 st.ck) := Sb.cell 12
        have s13 : w6.cell? ⟨rs, 13, none⟩ = some (.int .i64 st.pk) := Sb.cell 13
        have hRd := hO1.reads
        rw [flat_u64] at hRd
        obtain ⟨ck, hck, CH⟩ := law20_chosen st hwfs.out A q cs hcs.out (by omega) w6 hRd
        replace CH := Lib.hid CH
        replace Sb := Lib.hid Sb
        replace hO1 := Lib.hid hO1
        replace hRb1 := Lib.hid hRb1
        replace hT1 := Lib.hid hT1
        clear hRd
        go_upto_region 12 with (go_at_call 13; (with_reducible refine CH.out.mono ?_); rintro e w7 ⟨rfl, hb7⟩)
        have LK := Lib.hid (tabsn_looks (hT1.out.call0 hb7))
        go_upto_region 13 with (go_at_call 27; (with_reducible refine LK.out.mono ?_); rintro e w8 ⟨rfl, hb8⟩)
        have hb68 := below_chain hb8 hb7
        have LV := Lib.hid (tabsn_live (hT1.out.call0 hb68))
        go_upto_region 14 with (go_at_call 26; (with_reducible refine LV.out.mono ?_); rintro e w9 ⟨A1, q1, rfl, hO9, hb9⟩)
        have hb69 := below_chain hb9 hb68
        have hz8 : w.heap.size ≤ w8.heap.size ∧ rs + 1 ≤ w8.heap.size := by have := hb68.size; omega
        have hz9 := hb69.size
        have hT9 := Lib.hid ((hT1.out.call hb69).mono (K' := fun b => (K20 rb A b ∨ b = rs) ∨ rs + 1 ≤ b ∧ b < w9.heap.size) (fun b hb => by rw [hz1]; exact hb))
        have hS9 := Lib.hid (Sb.out.call hb69)
        have hO2 := Lib.hid (OwnA.call hO1.out hb69)
        have hR2 := Lib.hid (hRb1.out.call hb69)
        have hpx := (pIx_eq R st.tu hp1.1 hp1.2.1 hp1.2.2).2
        have hLL : (entsL n p S).length ≤ 1000 := by
          have h1 := ents_free hL.out.ti p (Nat.le_refl _)
          have h2 : p * n ≤ 16 * 8 := Nat.mul_le_mul hp1.2.2 hn8
          omega
        have hgen := Lib.hid fun x (hx : x ∈ entsL n p S) => (show 0 ≤ x.gen ∧ x.gen < 18446744073709551616 from by
          obtain ⟨i, hi, c, hc, -, rfl⟩ := mem_entsL.1 hx
          exact (hL.out.ti i hi).gr c hc)
        have hisF := Lib.hid (isB_find hL.out hy.out hnR.out hpx hck)
        have hIn := Lib.hid fun b (hb : InB A1 b) => hO9.block hb
        obtain ⟨LL, hLe⟩ : ∃ LL, entsL n p S = LL := ⟨_, rfl⟩
        rw [hLe] at hLL hgen hisF hO9
        try rw [hLe]
        obtain ⟨lk, hlk⟩ : ∃ lk, sumF (fun i => (S i).lk) p = lk := ⟨_, rfl⟩
        try rw [hlk]
        replace hO9 := Lib.hid hO9
        replace hLe := Lib.hid hLe
        replace hlk := Lib.hid hlk
        clear LK LV CH hb7 hb8 hb9 hb68 hT1 Sb hO1 hRb1 hb69 s0 s1 s2 s3 s4 s5 s6 s7 s8 s9 s10 s11 s12 s13 w7
        obtain ⟨wo, rfl⟩ : ∃ wo, wo = wr := ⟨wr, rfl⟩
        obtain ⟨go_, rfl⟩ : ∃ go_, go_ = gk := ⟨gk, rfl⟩
        go_wp2_with fail
        go_loopg [13, 14] LL.length (fun g2 isv iv wx => ∃ j : Nat, j + g2 = LL.length ∧ iv = .int .i64 (j : Nat) ∧ isv = .bool (isB R (LL.take j) st.tu ck) ∧ Below w9.heap.size w9 wx)
        case atStart => exact ⟨0, by omega, rfl, rfl, Below.refl _ _⟩
        case round =>
          obtain ⟨j, hj, rfl, rfl, hbx⟩ := hrel
          have hS10 := hS9.out.call hbx
          by_cases hjl : j < LL.length
          · have hjli : (j : Int) < (LL.length : Int) := by omega
            obtain ⟨a1, rfl, hbl1, hc⟩ := (hO9.out.call hbx).reads.rec_at Slt.ent (fun _ => rfl) hjl
            have hst := any_succ LL (fun x => tupB x.t st.tu && (ckOf R x == (ck : Int))) hjl
            have hxg := hgen.out _ (List.getElem_mem hjl)
            generalize LL[j] = x at *
            have hCK := Lib.hid (tabsn_cookie (hT9.out.call0 (below_chain (Below.refl wr.heap.size wr).drew hbx)) x hxg)
            have hIs : IsAt (a1.add (j * 14)) rs x st.tu wr := ⟨hc 0 _ rfl, hc 1 _ rfl, hc 2 _ rfl, hc 3 _ rfl, hc 4 _ rfl, hc 5 _ rfl, hc 6 _ rfl, hc 7 _ rfl, hc 8 _ rfl, hc 9 _ rfl, hc 10 _ rfl, hc 11 _ rfl, hc 12 _ rfl, hc 13 _ rfl, hS10.cell 1, hS10.cell 2, hS10.cell 3, hS10.cell 4, hS10.cell 5, hS10.cell 6, hS10.cell 7, hS10.cell 8, hS10.cell 9⟩
            have hTE := fun W => tup_eql x.t st.tu W
            obtain ⟨bq, hbq⟩ : ∃ bq, isB R (LL.take j) st.tu ck = bq := ⟨_, rfl⟩
            obtain ⟨be, hbe⟩ : ∃ be, tupB x.t st.tu = be := ⟨_, rfl⟩
            obtain ⟨cv, hcv⟩ : ∃ cv, makeI R.wd R.sl R.gn R.ka R.kb x.t x.sl x.gen = cv := ⟨_, rfl⟩
            have hcv2 : ckOf R x = cv := hcv
            have hst2 : isB R (LL.take (j + 1)) st.tu ck = (bq || (be && (cv == (ck : Int)))) := by
              have : isB R (LL.take (j + 1)) st.tu ck = (isB R (LL.take j) st.tu ck || (tupB x.t st.tu && (ckOf R x == (ck : Int)))) := hst
              rw [this, hbq, hbe, hcv2]
            rw [hbe] at hTE
            rw [hbq]
            rw [hcv] at hCK
            replace hst2 := Lib.hid hst2
            clear hst hbq hbe hcv hcv2 hc hS10 hxg
            cases bq
            · cases be
              · obtain ⟨i0, i1, i2, i3, i4, i5, i6, i7, i8, i9, i10, i11, i12, i13, i14, i15, i16, i17, i18, i19, i20, i21, i22⟩ := hIs
                clear hCK
                go_wp2_with fail
                go_quiet (fail)
                clear i0 i1 i2 i3 i4 i5 i6 i7 i8 i9 i10 i11 i12 i13 i14 i15 i16 i17 i18 i19 i20 i21 i22 hTE
                go_wp2_with fail
                go_roundg (gk - 1)
                case measure => omega
                case rel => exact ⟨j + 1, by omega, by go_num, by rw [hst2.out]; rfl, below_drewN hbx nq⟩
              · have hIs2 : IsAt (a1.add (j * 14)) rs x st.tu wr.drew := hIs
                have hd : Below w9.heap.size w9 wr.drew := below_chain (Below.refl wr.heap.size wr).drew hbx
                clear hIs
                go_upto_region 18 with fail
                refine wp_region_held_drew (S := IsAt (a1.add (j * 14)) rs x st.tu) (by kernel_rfl) hIs2 (fun hHeld => ?_)
                generalize wr.drew = wq at *
                (refine' takeH 0 (v := _) rfl (by kernel_rfl) (by kernel_rfl) (by kernel_rfl) (fun _ _ _ h => h) (Or.inl ⟨by rfl, ?_⟩) (by assumption) ?_; rotate_left; · ((intro w hSw; (try dsimp only at hSw); go_simp) <;> with_reducible rfl)); try go_frame
                (refine' takeH 1 (v := _) rfl (by kernel_rfl) (by kernel_rfl) (by kernel_rfl) (fun _ _ _ h => h) (Or.inl ⟨by rfl, ?_⟩) (by assumption) ?_; rotate_left; · ((intro w hSw; (try dsimp only at hSw); go_simp) <;> with_reducible rfl)); try go_frame
                (refine' takeH 2 (v := _) rfl (by kernel_rfl) (by kernel_rfl) (by kernel_rfl) (fun _ _ _ h => h) (Or.inl ⟨by rfl, ?_⟩) (by assumption) ?_; rotate_left; · ((intro w hSw; (try dsimp only at hSw); go_simp) <;> with_reducible rfl)); try go_frame
                (refine' takeH 3 (v := _) rfl (by kernel_rfl) (by kernel_rfl) (by kernel_rfl) (fun _ _ _ h => h) (Or.inl ⟨by rfl, ?_⟩) (by assumption) ?_; rotate_left; · ((intro w hSw; (try dsimp only at hSw); go_simp) <;> with_reducible rfl)); try go_frame
                (refine' takeH 4 (v := _) rfl (by kernel_rfl) (by kernel_rfl) (by kernel_rfl) (fun _ _ _ h => h) (Or.inl ⟨by rfl, ?_⟩) (by assumption) ?_; rotate_left; · ((intro w hSw; (try dsimp only at hSw); go_simp) <;> with_reducible rfl)); try go_frame
                (refine' takeH 5 (v := _) rfl (by kernel_rfl) (by kernel_rfl) (by kernel_rfl) (fun _ _ _ h => h) (Or.inl ⟨by rfl, ?_⟩) (by assumption) ?_; rotate_left; · ((intro w hSw; (try dsimp only at hSw); go_simp) <;> with_reducible rfl)); try go_frame
                (refine' takeH 6 (v := _) rfl (by kernel_rfl) (by kernel_rfl) (by kernel_rfl) (fun _ _ _ h => h) (Or.inl ⟨by rfl, ?_⟩) (by assumption) ?_; rotate_left; · ((intro w hSw; (try dsimp only at hSw); go_simp) <;> with_reducible rfl)); try go_frame
                (refine' takeH 7 (v := _) rfl (by kernel_rfl) (by kernel_rfl) (by kernel_rfl) (fun _ _ _ h => h) (Or.inl ⟨by rfl, ?_⟩) (by assumption) ?_; rotate_left; · ((intro w hSw; (try dsimp only at hSw); go_simp) <;> with_reducible rfl)); try go_frame
                (refine' takeH 8 (v := _) rfl (by kernel_rfl) (by kernel_rfl) (by kernel_rfl) (fun _ _ _ h => h) (Or.inl ⟨by rfl, ?_⟩) (by assumption) ?_; rotate_left; · ((intro w hSw; (try dsimp only at hSw); go_simp) <;> with_reducible rfl)); try go_frame
                (refine' takeH 9 (v := _) rfl (by kernel_rfl) (by kernel_rfl) (by kernel_rfl) (fun _ _ _ h => h) (Or.inl ⟨by rfl, ?_⟩) (by assumption) ?_; rotate_left; · ((intro w hSw; (try dsimp only at hSw); go_simp) <;> with_reducible rfl)); try go_frame
                (refine' takeH 10 (v := _) rfl (by kernel_rfl) (by kernel_rfl) (by kernel_rfl) (fun _ _ _ h => h) (Or.inl ⟨by rfl, ?_⟩) (by assumption) ?_; rotate_left; · ((intro w hSw; (try dsimp only at hSw); go_simp) <;> with_reducible rfl)); try go_frame
                (refine' takeH 11 (v := _) rfl (by kernel_rfl) (by kernel_rfl) (by kernel_rfl) (fun _ _ _ h => h) (Or.inl ⟨by rfl, ?_⟩) (by assumption) ?_; rotate_left; · ((intro w hSw; (try dsimp only at hSw); go_simp) <;> with_reducible rfl)); try go_frame
                (refine' takeH 12 (v := _) rfl (by kernel_rfl) (by kernel_rfl) (by kernel_rfl) (fun _ _ _ h => h) (Or.inl ⟨by rfl, ?_⟩) (by assumption) ?_; rotate_left; · ((intro w hSw; (try dsimp only at hSw); go_simp) <;> with_reducible rfl)); try go_frame
                (refine' takeH 13 (v := _) rfl (by kernel_rfl) (by kernel_rfl) (by kernel_rfl) (fun _ _ _ h => h) (Or.inl ⟨by rfl, ?_⟩) (by assumption) ?_; rotate_left; · ((intro w hSw; (try dsimp only at hSw); go_simp) <;> with_reducible rfl)); try go_frame
                (refine' takeH 14 (v := _) rfl (by kernel_rfl) (by kernel_rfl) (by kernel_rfl) (fun _ _ _ h => h) (Or.inl ⟨by rfl, ?_⟩) (by assumption) ?_; rotate_left; · ((intro w hSw; (try dsimp only at hSw); go_simp) <;> with_reducible rfl)); try go_frame
                (refine' takeH 15 (v := _) rfl (by kernel_rfl) (by kernel_rfl) (by kernel_rfl) (fun _ _ _ h => h) (Or.inl ⟨by rfl, ?_⟩) (by assumption) ?_; rotate_left; · ((intro w hSw; (try dsimp only at hSw); go_simp) <;> with_reducible rfl)); try go_frame
                (refine' takeH 17 (v := _) rfl (by kernel_rfl) (by kernel_rfl) (by kernel_rfl) (fun _ _ _ h => h) (Or.inl ⟨by rfl, ?_⟩) (by assumption) ?_; rotate_left; · ((intro w hSw; (try dsimp only at hSw); go_simp) <;> with_reducible rfl)); try go_frame
                refine wpAnyH_ready (rs := [16]) (by kernel_rfl) (by simp) ?_; refine consH rfl (fun K hK => ?_) AllReadyH.nil
                go_simp
                (go_at_call 31; (with_reducible refine hCK.out.mono ?_))
                rintro e w5 ⟨rfl, hb5⟩
                refine hK.out _ _ (hHeld.call hb5) (fun hHeld => ?_)
                clear hK K
                try go_frame
                (refine' takeH 18 (v := _) rfl (by kernel_rfl) (by kernel_rfl) (by kernel_rfl) (fun _ _ _ h => h) (Or.inl ⟨by rfl, ?_⟩) (by assumption) ?_; rotate_left; · ((intro w hSw; (try dsimp only at hSw); go_simp) <;> with_reducible rfl)); try go_frame
                (refine' takeH 19 (v := _) rfl (by kernel_rfl) (by kernel_rfl) (by kernel_rfl) (fun _ _ _ h => h) (Or.inl ⟨by rfl, ?_⟩) (by assumption) ?_; rotate_left; · ((intro w hSw; (try dsimp only at hSw); go_simp) <;> with_reducible rfl)); try go_frame
                (refine' takeH 20 (v := _) rfl (by kernel_rfl) (by kernel_rfl) (by kernel_rfl) (fun _ _ _ h => h) (Or.inl ⟨by rfl, ?_⟩) (by assumption) ?_; rotate_left; · ((intro w hSw; (try dsimp only at hSw); go_simp) <;> with_reducible rfl)); try go_frame
                (refine' takeH 21 (v := _) rfl (by kernel_rfl) (by kernel_rfl) (by kernel_rfl) (fun _ _ _ h => h) (Or.inl ⟨by rfl, ?_⟩) (by assumption) ?_; rotate_left; · ((intro w hSw; (try dsimp only at hSw); go_simp) <;> with_reducible rfl)); try go_frame
                refine wpAnyH_done (by kernel_rfl) ?_ _
                clear hHeld
                go_wp2_with fail
                go_roundg (gk - 1)
                case measure => omega
                case rel => exact ⟨j + 1, by omega, by go_num, by rw [hst2.out]; rfl, below_chain hb5 hd⟩
            · clear hCK hIs hTE
              go_wp2_with fail
              go_quiet (fail)
              go_wp2_with fail
              go_roundg (gk - 1)
              case measure => omega
              case rel => exact ⟨j + 1, by omega, by go_num, by rw [hst2.out]; rfl, below_drewN hbx nq⟩
          · obtain rfl : j = LL.length := by omega
            have hjli : ¬ (LL.length : Int) < (LL.length : Int) := by omega
            have hT10 := Lib.hid (hT9.out.call0 hbx)
            have hO10 := Lib.hid (OwnA.call hO2.out hbx)
            have hR10 := Lib.hid (hR2.out.call hbx)
            have hL10 := Lib.hid (OwnA.call hO9.out hbx)
            have hz10 := hbx.size
            rw [List.take_length, hisF.out]
            replace hS10 := Lib.hid hS10
            have hrw2 : w.heap.size ≤ w8.heap.size ∧ rs + 1 ≤ w8.heap.size := Lib.hid (hz8) |>.out
            clear hT9 hO2 hR2 hO9 hS9 hbx hj hLL hgen
            obtain ⟨fo, hfo⟩ : ∃ fo, findOkC R n (S (pIx R st.tu)) st.tu ck = fo := ⟨_, rfl⟩
            rw [hfo]
            go_upto_region 19 with fail
            rename_i zz0 zz1 zz2 zz3 zz4 zz5 zz6 zz7 zz8 zz9 zz10 zz11 zz12 zz13 zz14 zz15 zz16 zz17 zz18 zz19 zz20 zz21 zz22 zz23 zz24 zz25 zz26 zz27 zz28 zz29 zz30 zz31 zz32 zz33 zz34 zz35 zz36 zz37 zz38 zz39 zz40 zz41 zz42 zz43 zz44
            revert l d w h30 e30 e31 sb gb hsb12 p n hwf hn8 wd gn ka kb a b c d2 G hp hsm zz0 w0 rb hrb hrw w1 w3 w4 w5 g R hy hp1 hnR hnpR hR hLI0 zz1 zz2 u4 u9 u10 u11 u12 u13 u14 u15 u16 u17 u18 u19 u20 u21 u22 u23 u48 u49 u50 u51 u52 u53 u54 u55 u56 u57 u58 u59 u60 u61 u62 u63 u64 zz3 zz4 zz5 zz6 zz7 zz8 zz9 zz10 zz11 zz12 zz13 zz14 zz15 zz16 zz17 zz18 zz19 zz20 zz21 zz22 zz23 zz24 zz25 zz26 zz27 zz28 zz29 u92 u93 u94 u95 u96 u97 u98 u99 u100 u101 u102 u103 u104 u105 u106 u107 u108 u109 u110 u111 u112 u113 u114 u115 u116 u117 u118 u119 u120 u121 u122 u123 u124 u125 u126 u127 u128 u129 u130 u131 u132 u133 u134 u135 u136 u137 u138 u139 u140 u141 u142 u143 u144 u145 u146 u147 u148 u149 u150 u151 u152 u153 u154 u155 u156 u157 u158 u159 u160 u161 u162 u163 u164 u165 u166 u167 u168 u169 u170 u171 u172 u173 u174 u175 u176 u177 u178 u179 u180 u181 u182 u183 u184 u185 u186 u187 u188 u189 u190 u191 u192 u193 u194 u195 u196 u197 u198 u199 u200 u201 u202 u203 u204 u205 u206 u207 u208 u209 u210 u211 u212 u213 u214 u215 u216 u217 u218 u219 u220 u221 u222 u223 u224 u225 u226 zz30 zz31 k S A q cs hnA hcl hlt hlti ad st hr zz32 hL hwfs hcs zz33 zz34 rs hrbl hAl w6 hz1 ck hck w8 w9 A1 q1 hz8 hz9 hpx hIn LL hisF lk hLe hlk wo hrs go_ zz35 hk zz36 gk wr u65 u66 u67 u68 u69 u70 u71 u72 u73 u74 u75 u76 u77 u78 u79 u80 u81 u82 u83 u84 u85 u86 u87 u88 u89 u90 u91 zz37 zz38 zz39 zz40 hjl hjli hT10 hO10 hR10 hL10 hz10 hS10 hrw2 fo hfo zz41 zz42 zz43 zz44
            exact Q1.out
      · rename_i zz0 zz1 zz2 zz3 zz4 zz5 zz6
        revert l B d w h30 e30 e31 sb gb hsb12 p n hr hwf hn8 wd gn ka kb a b c d2 G hp hsm zz0 w0 rb hrb hrw w1 w3 w4 w5 g R hy hp1 hnR hnpR hR hLI0 zz1 zz2 gk wr u4 u9 u10 u11 u12 u13 u14 u15 u16 u17 u18 u19 u20 u21 u22 u23 u48 u49 u50 u51 u52 u53 u54 u55 u56 u57 u58 u59 u60 u61 u62 u63 u64 u65 u66 u67 u68 u69 u70 u71 u72 u73 u74 u75 u76 u77 u78 u79 u80 u81 u82 u83 u84 u85 u86 u87 u88 u89 u90 u91 u92 u93 u94 u95 u96 u97 u98 u99 u100 u101 u102 u103 u104 u105 u106 u107 u108 u109 u110 u111 u112 u113 u114 u115 u116 u117 u118 u119 u120 u121 u122 u123 u124 u125 u126 u127 u128 u129 u130 u131 u132 u133 u134 u135 u136 u137 u138 u139 u140 u141 u142 u143 u144 u145 u146 u147 u148 u149 u150 u151 u152 u153 u154 u155 u156 u157 u158 u159 u160 u161 u162 u163 u164 u165 u166 u167 u168 u169 u170 u171 u172 u173 u174 u175 u176 u177 u178 u179 u180 u181 u182 u183 u184 u185 u186 u187 u188 u189 u190 u191 u192 u193 u194 u195 u196 u197 u198 u199 u200 u201 u202 u203 u204 u205 u206 u207 u208 u209 u210 u211 u212 u213 u214 u215 u216 u217 u218 u219 u220 u221 u222 u223 u224 u225 u226 zz3 zz4 zz5 zz6 k S A q cs hk hO hnA hcs hcl hT hL hRb hlt
        exact Q2.out
end Go.Proofs.YtbmmklgkbbbopaaGreat

namespace Go.Proofs.YtbmmklgkbbbopaaGreat
open Go Go.RowKit Go.Deep Go.Maps Go.ChangeMaps

set_option maxRecDepth 100000 in
set_option maxHeartbeats 64000000 in
/-- tablesFind_yes_arm1, but for 3 stretches. -/
def tablesFind_step : (P1 : Prop) ×' (P2 : Prop) ×' (P3 : Prop) ×' (Hid P1 → Hid P2 → Hid P3 → tablesFind_pack.1) := by
  apply PSigma.mk
  apply PSigma.mk
  apply PSigma.mk
  · intro Q1 Q2 Q3
    intro l d w h30 e30 e31 sb gb hsb12 p n hwf hn8 wd gn ka kb a b c d2 G hp hsm zz0 w0 rb hrb hrw w1 w3 w4 w5 g R hy hp1 hnR hnpR hR hLI0 zz1 zz2 u4 u9 u10 u11 u12 u13 u14 u15 u16 u17 u18 u19 u20 u21 u22 u23 u48 u49 u50 u51 u52 u53 u54 u55 u56 u57 u58 u59 u60 u61 u62 u63 u64 zz3 zz4 zz5 zz6 zz7 zz8 zz9 zz10 zz11 zz12 zz13 zz14 zz15 zz16 zz17 zz18 zz19 zz20 zz21 zz22 zz23 zz24 zz25 zz26 zz27 zz28 zz29 u92 u93 u94 u95 u96 u97 u98 u99 u100 u101 u102 u103 u104 u105 u106 u107 u108 u109 u110 u111 u112 u113 u114 u115 u116 u117 u118 u119 u120 u121 u122 u123 u124 u125 u126 u127 u128 u129 u130 u131 u132 u133 u134 u135 u136 u137 u138 u139 u140 u141 u142 u143 u144 u145 u146 u147 u148 u149 u150 u151 u152 u153 u154 u155 u156 u157 u158 u159 u160 u161 u162 u163 u164 u165 u166 u167 u168 u169 u170 u171 u172 u173 u174 u175 u176 u177 u178 u179 u180 u181 u182 u183 u184 u185 u186 u187 u188 u189 u190 u191 u192 u193 u194 u195 u196 u197 u198 u199 u200 u201 u202 u203 u204 u205 u206 u207 u208 u209 u210 u211 u212 u213 u214 u215 u216 u217 u218 u219 u220 u221 u222 u223 u224 u225 u226 zz30 zz31 k S A q cs hnA hcl hlt hlti ad st hr zz32 hL hwfs hcs zz33 zz34 rs hrbl hAl w6 hz1 ck hck w8 w9 A1 q1 hz8 hz9 hpx hIn LL hisF lk hLe hlk wo hrs go_ zz35 hk zz36 gk wr u65 u66 u67 u68 u69 u70 u71 u72 u73 u74 u75 u76 u77 u78 u79 u80 u81 u82 u83 u84 u85 u86 u87 u88 u89 u90 u91 zz37 zz38 zz39 zz40 hjl hjli hT10 hO10 hR10 hL10 hz10 hS10 hrw2 fo hfo zz41 zz42 zz43 zz44
    have s0 : wr.cell? ⟨rs, 0, none⟩ = some (.int .i64 st.kd) := hS10.out.cell 0
    have s1 : wr.cell? ⟨rs, 1, none⟩ = some (.int .i64 st.tu.p) := hS10.out.cell 1
    have s2 : wr.cell? ⟨rs, 2, none⟩ = some (.bool st.tu.v) := hS10.out.cell 2
    have s3 : wr.cell? ⟨rs, 3, none⟩ = some (.int .u64 st.tu.hi) := hS10.out.cell 3
    have s4 : wr.cell? ⟨rs, 4, none⟩ = some (.int .u64 st.tu.lo) := hS10.out.cell 4
    have s5 : wr.cell? ⟨rs, 5, none⟩ = some (.bool st.tu.v') := hS10.out.cell 5
    have s6 : wr.cell? ⟨rs, 6, none⟩ = some (.int .u64 st.tu.hi') := hS10.out.cell 6
    have s7 : wr.cell? ⟨rs, 7, none⟩ = some (.int .u64 st.tu.lo') := hS10.out.cell 7
    have s8 : wr.cell? ⟨rs, 8, none⟩ = some (.int .i64 st.tu.sp) := hS10.out.cell 8
    have s9 : wr.cell? ⟨rs, 9, none⟩ = some (.int .i64 st.tu.dp) := hS10.out.cell 9
    have s10 : wr.cell? ⟨rs, 10, none⟩ = some (.int .i64 st.n) := hS10.out.cell 10
    have s11 : wr.cell? ⟨rs, 11, none⟩ = some (.int .i64 st.bk) := hS10.out.cell 11
    have s12 : wr.cell? ⟨rs, 12, none⟩ = some (.int .u64 st.ck) := hS10.out.cell 12
    have s13 : wr.cell? ⟨rs, 13, none⟩ = some (.int .i64 st.pk) := hS10.out.cell 13
    have hK : ∀ b, ((K20 rb A b ∨ b = rs) ∨ rs + 1 ≤ b ∧ b < w9.heap.size) → b < wr.heap.size := fun b hb => by
      rcases hb with ((hb | hb) | hb) | hb
      · omega
      · have := hAl.out b hb
        omega
      · omega
      · omega
    have hlb : (0 : Int) ≤ 2 * (k : Int) ∧ 2 * (k : Int) ≤ 990 := by omega
    have REL := Lib.hid fun (W : World) (S' : Nat → TSt) (hT : TabsN w W g R p n S' fun b => (K20 rb A b ∨ b = rs) ∨ rs + 1 ≤ b ∧ b < w9.heap.size) (hc : Chg (Nk w fun b => (K20 rb A b ∨ b = rs) ∨ rs + 1 ≤ b ∧ b < w9.heap.size) wr W) (hL' : LI R p n S' (2 * (k : Int) + 2)) =>
      show OwnU W w.heap.size A q cs ∧ TabsN w W g R p n S' (K20 rb A) ∧ LI R p n S' (2 * ((k + 1 : Nat) : Int)) ∧ Blk W rb 30 R.cells.toArray from
        ⟨OwnA.chg hO10.out hc fun b hb e => e.2 (.inl (.inl (.inr hb))), hT.mono fun b hb => .inl (.inl hb), hL'.mono (by omega), hR10.out.chg hc fun e => e.2 (.inl (.inl (.inl rfl)))⟩
    have K4 := Lib.hid (tabsn_go hT10.out hK st.n hL.out.now)
    have K5 := Lib.hid (tabsn_drop hT10.out hK st.bk)
    obtain ⟨kd, hkd⟩ : ∃ kd, st.kd = kd := ⟨_, rfl⟩
    rw [hkd] at s0
    have hkc : kd = 0 ∨ kd = 2 ∨ kd = 3 ∨ kd = 4 ∨ ((kd == 0) = false ∧ (kd == 2) = false ∧ (kd == 3) = false ∧ (kd == 4) = false) := by
      simp only [beq_eq_false_iff_ne]
      omega
    rcases hkc with rfl | rfl | rfl | rfl | ⟨e0, e2, e3, e4⟩
    · revert l d w h30 e30 e31 sb gb hsb12 p n hwf hn8 wd gn ka kb a b c d2 G hp hsm zz0 w0 rb hrb hrw w1 w3 w4 w5 g R hy hp1 hnR hnpR hR hLI0 zz1 zz2 u4 u9 u10 u11 u12 u13 u14 u15 u16 u17 u18 u19 u20 u21 u22 u23 u48 u49 u50 u51 u52 u53 u54 u55 u56 u57 u58 u59 u60 u61 u62 u63 u64 zz3 zz4 zz5 zz6 zz7 zz8 zz9 zz10 zz11 zz12 zz13 zz14 zz15 zz16 zz17 zz18 zz19 zz20 zz21 zz22 zz23 zz24 zz25 zz26 zz27 zz28 zz29 u92 u93 u94 u95 u96 u97 u98 u99 u100 u101 u102 u103 u104 u105 u106 u107 u108 u109 u110 u111 u112 u113 u114 u115 u116 u117 u118 u119 u120 u121 u122 u123 u124 u125 u126 u127 u128 u129 u130 u131 u132 u133 u134 u135 u136 u137 u138 u139 u140 u141 u142 u143 u144 u145 u146 u147 u148 u149 u150 u151 u152 u153 u154 u155 u156 u157 u158 u159 u160 u161 u162 u163 u164 u165 u166 u167 u168 u169 u170 u171 u172 u173 u174 u175 u176 u177 u178 u179 u180 u181 u182 u183 u184 u185 u186 u187 u188 u189 u190 u191 u192 u193 u194 u195 u196 u197 u198 u199 u200 u201 u202 u203 u204 u205 u206 u207 u208 u209 u210 u211 u212 u213 u214 u215 u216 u217 u218 u219 u220 u221 u222 u223 u224 u225 u226 zz30 zz31 k S A q cs hnA hcl hlt hlti ad st hr zz32 hL hwfs hcs zz33 zz34 rs hrbl hAl w6 hz1 ck hck w8 w9 A1 q1 hz8 hz9 hpx hIn LL hisF lk hLe hlk wo hrs go_ zz35 hk zz36 gk wr u65 u66 u67 u68 u69 u70 u71 u72 u73 u74 u75 u76 u77 u78 u79 u80 u81 u82 u83 u84 u85 u86 u87 u88 u89 u90 u91 zz37 zz38 zz39 zz40 hjl hjli hT10 hO10 hR10 hL10 hz10 hS10 hrw2 fo hfo zz41 zz42 zz43 zz44 s1 s2 s3 s4 s5 s6 s7 s8 s9 s10 s11 s12 s13 hK hlb REL K4 K5 s0 hkd
      exact Q1.out
    · revert l d w h30 e30 e31 sb gb hsb12 p n hwf hn8 wd gn ka kb a b c d2 G hp hsm zz0 w0 rb hrb hrw w1 w3 w4 w5 g R hy hp1 hnR hnpR hR hLI0 zz1 zz2 u4 u9 u10 u11 u12 u13 u14 u15 u16 u17 u18 u19 u20 u21 u22 u23 u48 u49 u50 u51 u52 u53 u54 u55 u56 u57 u58 u59 u60 u61 u62 u63 u64 zz3 zz4 zz5 zz6 zz7 zz8 zz9 zz10 zz11 zz12 zz13 zz14 zz15 zz16 zz17 zz18 zz19 zz20 zz21 zz22 zz23 zz24 zz25 zz26 zz27 zz28 zz29 u92 u93 u94 u95 u96 u97 u98 u99 u100 u101 u102 u103 u104 u105 u106 u107 u108 u109 u110 u111 u112 u113 u114 u115 u116 u117 u118 u119 u120 u121 u122 u123 u124 u125 u126 u127 u128 u129 u130 u131 u132 u133 u134 u135 u136 u137 u138 u139 u140 u141 u142 u143 u144 u145 u146 u147 u148 u149 u150 u151 u152 u153 u154 u155 u156 u157 u158 u159 u160 u161 u162 u163 u164 u165 u166 u167 u168 u169 u170 u171 u172 u173 u174 u175 u176 u177 u178 u179 u180 u181 u182 u183 u184 u185 u186 u187 u188 u189 u190 u191 u192 u193 u194 u195 u196 u197 u198 u199 u200 u201 u202 u203 u204 u205 u206 u207 u208 u209 u210 u211 u212 u213 u214 u215 u216 u217 u218 u219 u220 u221 u222 u223 u224 u225 u226 zz30 zz31 k S A q cs hnA hcl hlt hlti ad st hr zz32 hL hwfs hcs zz33 zz34 rs hrbl hAl w6 hz1 ck hck w8 w9 A1 q1 hz8 hz9 hpx hIn LL hisF lk hLe hlk wo hrs go_ zz35 hk zz36 gk wr u65 u66 u67 u68 u69 u70 u71 u72 u73 u74 u75 u76 u77 u78 u79 u80 u81 u82 u83 u84 u85 u86 u87 u88 u89 u90 u91 zz37 zz38 zz39 zz40 hjl hjli hT10 hO10 hR10 hL10 hz10 hS10 hrw2 fo hfo zz41 zz42 zz43 zz44 s1 s2 s3 s4 s5 s6 s7 s8 s9 s10 s11 s12 s13 hK hlb REL K4 K5 s0 hkd
      exact Q2.out
    · go_wp2_with (go_at_call 20; (with_reducible refine K4.out.mono ?_); rintro e v2 ⟨B4, q4, SS, rfl, hS4, -, hT2, hc2⟩)
      obtain ⟨r1, r2, r3, r4⟩ := REL.out _ _ hT2 hc2 ((hL.out.go hS4).mono (by omega))
      go_roundg (go_ - 1)
      case measure => omega
      case rel => exact ⟨k + 1, _, A, q, cs, by omega, by go_num, rfl, r1, hnA, hcs.out, by omega, r2, r3, r4⟩
    · go_wp2_with (go_at_call 23; (with_reducible refine K5.out.mono ?_); rintro e v2 ⟨B4, q4, rfl, -, hT2, hc2⟩)
      obtain ⟨r1, r2, r3, r4⟩ := REL.out _ _ hT2 hc2 ((hL.out.drop st.bk).mono (by omega))
      go_roundg (go_ - 1)
      case measure => omega
      case rel => exact ⟨k + 1, _, A, q, cs, by omega, by go_num, rfl, r1, hnA, hcs.out, by omega, r2, r3, r4⟩
    · revert l d w h30 e30 e31 sb gb hsb12 p n hwf hn8 wd gn ka kb a b c d2 G hp hsm zz0 w0 rb hrb hrw w1 w3 w4 w5 g R hy hp1 hnR hnpR hR hLI0 zz1 zz2 u4 u9 u10 u11 u12 u13 u14 u15 u16 u17 u18 u19 u20 u21 u22 u23 u48 u49 u50 u51 u52 u53 u54 u55 u56 u57 u58 u59 u60 u61 u62 u63 u64 zz3 zz4 zz5 zz6 zz7 zz8 zz9 zz10 zz11 zz12 zz13 zz14 zz15 zz16 zz17 zz18 zz19 zz20 zz21 zz22 zz23 zz24 zz25 zz26 zz27 zz28 zz29 u92 u93 u94 u95 u96 u97 u98 u99 u100 u101 u102 u103 u104 u105 u106 u107 u108 u109 u110 u111 u112 u113 u114 u115 u116 u117 u118 u119 u120 u121 u122 u123 u124 u125 u126 u127 u128 u129 u130 u131 u132 u133 u134 u135 u136 u137 u138 u139 u140 u141 u142 u143 u144 u145 u146 u147 u148 u149 u150 u151 u152 u153 u154 u155 u156 u157 u158 u159 u160 u161 u162 u163 u164 u165 u166 u167 u168 u169 u170 u171 u172 u173 u174 u175 u176 u177 u178 u179 u180 u181 u182 u183 u184 u185 u186 u187 u188 u189 u190 u191 u192 u193 u194 u195 u196 u197 u198 u199 u200 u201 u202 u203 u204 u205 u206 u207 u208 u209 u210 u211 u212 u213 u214 u215 u216 u217 u218 u219 u220 u221 u222 u223 u224 u225 u226 zz30 zz31 k S A q cs hnA hcl hlt hlti ad st hr zz32 hL hwfs hcs zz33 zz34 rs hrbl hAl w6 hz1 ck hck w8 w9 A1 q1 hz8 hz9 hpx hIn LL hisF lk hLe hlk wo hrs go_ zz35 hk zz36 gk wr u65 u66 u67 u68 u69 u70 u71 u72 u73 u74 u75 u76 u77 u78 u79 u80 u81 u82 u83 u84 u85 u86 u87 u88 u89 u90 u91 zz37 zz38 zz39 zz40 hjl hjli hT10 hO10 hR10 hL10 hz10 hS10 hrw2 fo hfo zz41 zz42 zz43 zz44 s1 s2 s3 s4 s5 s6 s7 s8 s9 s10 s11 s12 s13 hK hlb REL K4 K5 kd s0 hkd e0 e2 e3 e4
      exact Q3.out
end Go.Proofs.YtbmmklgkbbbopaaGreat

namespace Go.Proofs.YtbmmklgkbbbopaaGreat
open Go Go.RowKit Go.Deep Go.Maps Go.ChangeMaps

set_option maxRecDepth 100000 in
set_option maxHeartbeats 64000000 in
theorem tablesFind_yes_arm1_s3 : tablesFind_step.2.2.1 := by
  intro l d w h30 e30 e31 sb gb hsb12 p n hwf hn8 wd gn ka kb a b c d2 G hp hsm zz0 w0 rb hrb hrw w1 w3 w4 w5 g R hy hp1 hnR hnpR hR hLI0 zz1 zz2 u4 u9 u10 u11 u12 u13 u14 u15 u16 u17 u18 u19 u20 u21 u22 u23 u48 u49 u50 u51 u52 u53 u54 u55 u56 u57 u58 u59 u60 u61 u62 u63 u64 zz3 zz4 zz5 zz6 zz7 zz8 zz9 zz10 zz11 zz12 zz13 zz14 zz15 zz16 zz17 zz18 zz19 zz20 zz21 zz22 zz23 zz24 zz25 zz26 zz27 zz28 zz29 u92 u93 u94 u95 u96 u97 u98 u99 u100 u101 u102 u103 u104 u105 u106 u107 u108 u109 u110 u111 u112 u113 u114 u115 u116 u117 u118 u119 u120 u121 u122 u123 u124 u125 u126 u127 u128 u129 u130 u131 u132 u133 u134 u135 u136 u137 u138 u139 u140 u141 u142 u143 u144 u145 u146 u147 u148 u149 u150 u151 u152 u153 u154 u155 u156 u157 u158 u159 u160 u161 u162 u163 u164 u165 u166 u167 u168 u169 u170 u171 u172 u173 u174 u175 u176 u177 u178 u179 u180 u181 u182 u183 u184 u185 u186 u187 u188 u189 u190 u191 u192 u193 u194 u195 u196 u197 u198 u199 u200 u201 u202 u203 u204 u205 u206 u207 u208 u209 u210 u211 u212 u213 u214 u215 u216 u217 u218 u219 u220 u221 u222 u223 u224 u225 u226 zz30 zz31 k S A q cs hnA hcl hlt hlti ad st hr zz32 hL hwfs hcs zz33 zz34 rs hrbl hAl w6 hz1 ck hck w8 w9 A1 q1 hz8 hz9 hpx hIn LL hisF lk hLe hlk wo hrs go_ zz35 hk zz36 gk wr u65 u66 u67 u68 u69 u70 u71 u72 u73 u74 u75 u76 u77 u78 u79 u80 u81 u82 u83 u84 u85 u86 u87 u88 u89 u90 u91 zz37 zz38 zz39 zz40 hjl hjli hT10 hO10 hR10 hL10 hz10 hS10 hrw2 fo hfo zz41 zz42 zz43 zz44 s1 s2 s3 s4 s5 s6 s7 s8 s9 s10 s11 s12 s13 hK hlb REL K4 K5 kd s0 hkd e0 e2 e3 e4
  have hti := hL.out.ti _ hpx
  have hfx : fo = true → (findVC R n (S (pIx R st.tu)) st.tu ck).t = st.tu ∧ makeI R.wd R.sl R.gn R.ka R.kb (findVC R n (S (pIx R st.tu)) st.tu ck).t (findVC R n (S (pIx R st.tu)) st.tu ck).sl (findVC R n (S (pIx R st.tu)) st.tu ck).gen = ck ∧ 0 ≤ (findVC R n (S (pIx R st.tu)) st.tu ck).gen ∧ (findVC R n (S (pIx R st.tu)) st.tu ck).gen < 18446744073709551616 := fun e => by
    obtain ⟨c, hc, hu, ht, hck2, hv⟩ := findC_of hy.out hnR.out hti hck (hfo.trans e)
    rw [hv]
    exact ⟨ht, hck2, hti.gr c hc⟩
  have K1 := tabsn_find hT10.out hK st.tu ck hck
  rw [hfo] at K1
  have hLI := hL.out.find (t := st.tu) (by omega) hpx ck
  have hlk1 := hL.out.lk _ hpx
  have hlk2 := findSC_lk (r := R) (n := n) (s := S (pIx R st.tu)) (by omega) st.tu ck
  have hlo := looks_le (i := pIx R st.tu) (d := 1) hL.out hp1.2.2 hpx (by omega) (by omega) (s' := findSC R n (S (pIx R st.tu)) st.tu ck) (by omega) (by omega)
  have hE2 : entsL n p (updS S (pIx R st.tu) (findSC R n (S (pIx R st.tu)) st.tu ck)) = LL := (entsL_upd (findSC_eq _ _ _).1).trans hLe.out
  have hsr := sumF_rng (f := fun i => (S i).lk) hp1.2.2 fun i hi => by have := hL.out.lk i hi; omega
  rw [hlk.out] at hlo hsr
  have hLL : LL.length ≤ 1000 := by
    rw [← hLe.out]
    have h1 := ents_free hL.out.ti p (Nat.le_refl _)
    have h2 : p * n ≤ 16 * 8 := Nat.mul_le_mul hp1.2.2 hn8
    omega
  have hw1 : wrap64 (lk + 1) = lk + 1 := by unfold wrap64; omega
  obtain ⟨fV, hfV⟩ : ∃ v, findVC R n (S (pIx R st.tu)) st.tu ck = v := ⟨_, rfl⟩
  rw [hfV] at K1 hfx
  obtain ⟨S', hS'⟩ : ∃ s, updS S (pIx R st.tu) (findSC R n (S (pIx R st.tu)) st.tu ck) = s := ⟨_, rfl⟩
  rw [hS'] at K1 hLI hE2
  have hlo2 : sumF (fun j => (S' j).lk) p ≤ lk + 1 := by rw [← hS']; exact hlo
  obtain ⟨l2, hl2⟩ : ∃ v, sumF (fun j => (S' j).lk) p = v := ⟨_, rfl⟩
  rw [hl2] at hlo2
  have hgt : decide (lk + 1 < l2) = false := by simp; omega
  replace K1 := Lib.hid K1
  replace hfx := Lib.hid hfx
  replace hLI := Lib.hid hLI
  replace hE2 := Lib.hid hE2
  replace hl2 := Lib.hid hl2
  replace hK := Lib.hid hK
  replace hLL := Lib.hid hLL
  clear hS' hfV hlk1 hlk2 hlo hsr hti K4 K5 hfo hlo2
  go_upto_region 21 with (go_at_call 16; (with_reducible refine K1.out.mono ?_); rintro e v2 ⟨rfl, hT2, hc2⟩)
  change Code.wp _ _ _ _ (v2.alloc (.cells fV.entA 52))
  have hal := below_alloc (Below.refl v2.heap.size v2) (.cells fV.entA 52)
  have V := Blk.new v2 52 fV.entA
  have S7 := (hS10.out.chg hc2 (fun e => e.2 (.inl (.inr rfl)))).call hal
  have hT7 := Lib.hid (hT2.call0 hal)
  have hc7 := Lib.hid (hc2.trans (G := fun _ => False) (Chg.of_below hal) (fun b _ h => h.elim))
  have hO7 := Lib.hid ((OwnA.chg hL10.out hc2 (fun b hb e => e.2 (.inr (by have := hIn.out b hb; omega)))).call hal)
  obtain ⟨rq, hrq⟩ : ∃ q, v2.heap.size = q := ⟨_, rfl⟩
  rw [hrq] at V
  try rw [hrq]
  generalize v2.alloc (.cells fV.entA 52) = w7 at *
  clear s0 s1 s2 s3 s4 s5 s6 s7 s8 s9 s10 s11 s12 s13 hT2 hc2 hal K1 hS10
  have LKS := Lib.hid fun W (hb : Below w7.heap.size w7 W) => tabsn_looks (hT7.out.call0 hb)
  rw [hl2.out] at LKS
  have LVS := Lib.hid fun W (hb : Below w7.heap.size w7 W) => tabsn_live (hT7.out.call0 hb)
  rw [hE2.out] at LVS
  have FIN := Lib.hid fun W (hb : Below w7.heap.size w7 W) => REL.out W S' (hT7.out.call0 hb) (hc7.out.trans (G := fun _ => False) (Chg.of_below hb) (fun b _ h => h.elim)) (hLI.out.mono (by omega))
  cases fo
  · clear V S7
    go_wp2_with (first
      | (go_at_call 27; (with_reducible refine (LKS.out _ (Below.refl _ _)).mono ?_); rintro e v3 ⟨rfl, hb3⟩)
      | (go_at_call 26; (with_reducible refine (LVS.out _ hb3).mono ?_); rintro e v4 ⟨A2, q2, rfl, hO4, hb4⟩)
      | (go_at_call 22; (with_reducible refine (same19 _ A2 A1 q2 q1 LL hO4.reads (hO7.out.call (below_chain hb4 hb3)).reads (by have := hLL.out; omega)).mono ?_); rintro e v5 ⟨rfl, hb5⟩))
    obtain ⟨r1, r2, r3, r4⟩ := FIN.out _ (below_chain hb5 (below_chain hb4 hb3))
    go_roundg (go_ - 1)
    case measure => omega
    case rel => exact ⟨k + 1, _, A, q, cs, by omega, by go_num, rfl, r1, hnA, hcs.out, by omega, r2, r3, r4⟩
  · obtain ⟨hf1, hf2, hf3⟩ := hfx.out rfl
    have hNE : ∀ W, (binOp .neq 47 fV.t.val st.tu.val).run Tryz.prog W = .ok (.bool false) W := fun W => by rw [tup_neq, hf1, tupB_self]; rfl
    have CKS := Lib.hid fun W (hb : Below w7.heap.size w7 W) => tabsn_cookie (hT7.out.call0 hb) fV hf3
    rw [hf2] at CKS
    have hcc : ((ck : Int) != (ck : Int)) = false := by simp
    have f0 : w7.cell? ⟨rq, 0, none⟩ = some (.int .i64 fV.t.p) := V.cell 0
    have f1 : w7.cell? ⟨rq, 1, none⟩ = some (.bool fV.t.v) := V.cell 1
    have f2 : w7.cell? ⟨rq, 2, none⟩ = some (.int .u64 fV.t.hi) := V.cell 2
    have f3 : w7.cell? ⟨rq, 3, none⟩ = some (.int .u64 fV.t.lo) := V.cell 3
    have f4 : w7.cell? ⟨rq, 4, none⟩ = some (.bool fV.t.v') := V.cell 4
    have f5 : w7.cell? ⟨rq, 5, none⟩ = some (.int .u64 fV.t.hi') := V.cell 5
    have f6 : w7.cell? ⟨rq, 6, none⟩ = some (.int .u64 fV.t.lo') := V.cell 6
    have f7 : w7.cell? ⟨rq, 7, none⟩ = some (.int .i64 fV.t.sp) := V.cell 7
    have f8 : w7.cell? ⟨rq, 8, none⟩ = some (.int .i64 fV.t.dp) := V.cell 8
    have f9 : w7.cell? ⟨rq, 9, none⟩ = some (.int .i64 fV.bk) := V.cell 9
    have f10 : w7.cell? ⟨rq, 10, none⟩ = some (.int .i64 fV.st) := V.cell 10
    have f11 : w7.cell? ⟨rq, 11, none⟩ = some (.int .i64 fV.sl) := V.cell 11
    have f12 : w7.cell? ⟨rq, 12, none⟩ = some (.int .u64 fV.gen) := V.cell 12
    have f13 : w7.cell? ⟨rq, 13, none⟩ = some (.int .i64 fV.due) := V.cell 13
    have s1 : w7.cell? ⟨rs, 1, none⟩ = some (.int .i64 st.tu.p) := S7.cell 1
    have s2 : w7.cell? ⟨rs, 2, none⟩ = some (.bool st.tu.v) := S7.cell 2
    have s3 : w7.cell? ⟨rs, 3, none⟩ = some (.int .u64 st.tu.hi) := S7.cell 3
    have s4 : w7.cell? ⟨rs, 4, none⟩ = some (.int .u64 st.tu.lo) := S7.cell 4
    have s5 : w7.cell? ⟨rs, 5, none⟩ = some (.bool st.tu.v') := S7.cell 5
    have s6 : w7.cell? ⟨rs, 6, none⟩ = some (.int .u64 st.tu.hi') := S7.cell 6
    have s7 : w7.cell? ⟨rs, 7, none⟩ = some (.int .u64 st.tu.lo') := S7.cell 7
    have s8 : w7.cell? ⟨rs, 8, none⟩ = some (.int .i64 st.tu.sp) := S7.cell 8
    have s9 : w7.cell? ⟨rs, 9, none⟩ = some (.int .i64 st.tu.dp) := S7.cell 9
    clear V S7 hf1 hf2 hf3
    go_wp2_with (first
      | (go_at_call 31; (with_reducible refine (CKS.out _ (Below.refl _ _)).mono ?_); rintro e v6 ⟨rfl, hb6⟩; clear f0 f1 f2 f3 f4 f5 f6 f7 f8 f9 f10 f11 f12 f13 s1 s2 s3 s4 s5 s6 s7 s8 s9)
      | (go_at_call 27; (with_reducible refine (LKS.out _ hb6).mono ?_); rintro e v3 ⟨rfl, hb3⟩)
      | (go_at_call 26; (with_reducible refine (LVS.out _ (below_chain hb3 hb6)).mono ?_); rintro e v4 ⟨A2, q2, rfl, hO4, hb4⟩)
      | (go_at_call 22; (with_reducible refine (same19 _ A2 A1 q2 q1 LL hO4.reads (hO7.out.call (below_chain hb4 (below_chain hb3 hb6))).reads (by have := hLL.out; omega)).mono ?_); rintro e v5 ⟨rfl, hb5⟩))
    obtain ⟨r1, r2, r3, r4⟩ := FIN.out _ (below_chain hb5 (below_chain hb4 (below_chain hb3 hb6)))
    go_roundg (go_ - 1)
    case measure => omega
    case rel => exact ⟨k + 1, _, A, q, cs, by omega, by go_num, rfl, r1, hnA, hcs.out, by omega, r2, r3, r4⟩
end Go.Proofs.YtbmmklgkbbbopaaGreat
