/- table: the law TableDue, called. The visits that a law is given. -/
import Derived.Test.YtmkknjhalcocmaaJ19
import Derived.Deep.CutRange
import Derived.Deep.CutBlock
import Derived.Deep.LoopGhost
import Derived.Test.YtmkknjhalcocmaaJ14
namespace Go.Proofs.Ytmkknjhalcocmaa
open Go Go.RowKit Go.Deep Go.Maps Go.ChangeMaps

theorem right4 {a b c d : Int} (ha : 1 ≤ a ∧ a ≤ 40) (hb : 1 ≤ b ∧ b ≤ 40) (hc : 1 ≤ c ∧ c ≤ 40) (hd : 1 ≤ d ∧ d ≤ 40) : rightS a b c d = true := by
  unfold rightS okT
  simp
  omega
theorem DI.new (n : Nat) (G : Int) (m : Nat) : DI n G m 0 ⟨0, [], upto n 0, fun k => { slt0 with sl := k }, 0⟩ ⟨fun _ => false, fun _ => 0, fun _ => slt0⟩ :=
  ⟨fun i _ h => (by cases h), fun i j _ _ _ h => (by cases h), fun k _ h => (by cases h), fun k _ => Int.le_refl _, by show (0 : Int) ≤ 0 ∧ (0 : Int) ≤ 1000; omega⟩
theorem goE_zero {now nw : Int} (h : now ≤ nw ∧ nw ≤ 1000) : goE now nw = 0 := by
  unfold goE goOk
  rw [if_pos (by simp; omega)]
theorem idle40 {a b c d : Int} (ha : 1 ≤ a ∧ a ≤ 40) (hb : 1 ≤ b ∧ b ≤ 40) (hc : 1 ≤ c ∧ c ≤ 40) (hd : 1 ≤ d ∧ d ≤ 40) (st : Int) : 0 ≤ idleS a b c d st ∧ idleS a b c d st ≤ 40 := by
  unfold idleS
  repeat' split
  all_goals omega
theorem cell_drew (w : World) (a : Addr) : w.drew.cell? a = w.cell? a := rfl
theorem u8w {x : Int} (h : 0 ≤ x ∧ x ≤ 255) : IntKind.i64.wrap x = x := by simp [IntKind.wrap, IntKind.bits, IntKind.signed]; omega
/-- An entry of the law's own is filled. -/
theorem tab_local {w wc Wz : World} {g sb n r : Nat} {c : TCfg} {s : TSt} {K : Nat → Prop} {z : Slt} (hB : Blk Wz r 43 z.entA) (hT : TabN w Wz g sb n c s (fun b => K b ∨ b = r)) (hc : Chg (Nk w K) wc Wz) (hr : wc.heap.size ≤ r) (hw : w.heap.size ≤ wc.heap.size) (v : Slt) :
    Blk (setEnt Wz r v) r 43 v.entA ∧ TabN w (setEnt Wz r v) g sb n c s (fun b => K b ∨ b = r) ∧ Chg (Nk w K) wc (setEnt Wz r v) :=
  ⟨(setEnt_blk hB v).1, hT.at1 (setEnt_blk hB v).2 (.inr rfl) (by omega), hc.trans (G := (· = r)) (setEnt_blk hB v).2 (fun b h1 e => by have e2 : b = r := e; omega)⟩
set_option maxRecDepth 100000 in
set_option maxHeartbeats 400000000 in
theorem tableDue_calls (b gr s0 s1 s2 s3 : Int) (hb8 : 0 ≤ b ∧ b ≤ 255) (hg8 : 0 ≤ gr ∧ gr ≤ 255) (h08 : 0 ≤ s0 ∧ s0 ≤ 255) (h18 : 0 ≤ s1 ∧ s1 ≤ 255) (h28 : 0 ≤ s2 ∧ s2 ≤ 255) (h38 : 0 ≤ s3 ∧ s3 ≤ 255) (l : List Vis) (hv : ∀ v ∈ l, visW v) (B : Option Addr) (d : Nat) (w : World) (hr : Reads w w.heap.size 4 B l.length (l.flatMap Vis.cells)) (hl : l.length ≤ 9223372036854775807) :
    Calls Try.prog 5 #[.int .u8 b, .int .u8 gr, .agg #[.int .u8 s0, .int .u8 s1, .int .u8 s2, .int .u8 s3], .slice B l.length d] w fun e w' => e = .returned (.bool true) ∧ Below w.heap.size w w' := by
  by_cases h12 : 12 < l.length
  · have e12 : decide ((12 : Int) < (l.length : Int)) = true := by simp; omega
    clear hr
    go_enter Try.func5, Try.ntmps5
    go_upto_region 1 with fail
    have hb0 := below_alloc (Below.refl w.heap.size w) (.cells #[.int .u8 s0, .int .u8 s1, .int .u8 s2, .int .u8 s3] 56)
    generalize w.alloc (.cells #[.int .u8 s0, .int .u8 s1, .int .u8 s2, .int .u8 s3] 56) = w1 at *
    go_wp2_with (go_at_call 6; (with_reducible refine (awake19 _).mono ?_); rintro e w2 ⟨rfl, hb1⟩)
    go_ret
    exact ⟨rfl, below_chain hb1 hb0⟩
  have e12 : decide ((12 : Int) < (l.length : Int)) = false := by simp; omega
  have hm12 : l.length ≤ 12 := by omega
  obtain ⟨bm, hbm, hbm4⟩ : ∃ m : Nat, b % 5 = (m : Int) ∧ m ≤ 4 := ⟨(b % 5).toNat, by omega, by omega⟩
  have htb : b.tmod 5 = (bm : Int) := (Int.tmod_eq_emod_of_nonneg (by omega)).trans hbm
  have hwb := u8w hb8
  have hwg := u8w hg8
  have hw0 := u8w h08
  have hw1 := u8w h18
  have hw2 := u8w h28
  have hw3 := u8w h38
  have tg : gr.tmod 16 = gr % 16 := Int.tmod_eq_emod_of_nonneg (by omega)
  have t0 : s0.tmod 40 = s0 % 40 := Int.tmod_eq_emod_of_nonneg (by omega)
  have t1 : s1.tmod 40 = s1 % 40 := Int.tmod_eq_emod_of_nonneg (by omega)
  have t2 : s2.tmod 40 = s2 % 40 := Int.tmod_eq_emod_of_nonneg (by omega)
  have t3 : s3.tmod 40 = s3 % 40 := Int.tmod_eq_emod_of_nonneg (by omega)
  replace hr := Lib.hid hr
  go_enter Try.func5, Try.ntmps5
  go_upto_region 5 with fail
  obtain ⟨G, hG, hGr⟩ : ∃ G : Int, 1 + gr % 16 = G ∧ 1 ≤ G ∧ G ≤ 16 := ⟨_, rfl, by omega, by omega⟩
  obtain ⟨a0, ha0, hr0⟩ : ∃ a : Int, 1 + s0 % 40 = a ∧ 1 ≤ a ∧ a ≤ 40 := ⟨_, rfl, by omega, by omega⟩
  obtain ⟨a1, ha1, hr1⟩ : ∃ a : Int, 1 + s1 % 40 = a ∧ 1 ≤ a ∧ a ≤ 40 := ⟨_, rfl, by omega, by omega⟩
  obtain ⟨a2, ha2, hr2⟩ : ∃ a : Int, 1 + s2 % 40 = a ∧ 1 ≤ a ∧ a ≤ 40 := ⟨_, rfl, by omega, by omega⟩
  obtain ⟨a3, ha3, hr3⟩ : ∃ a : Int, 1 + s3 % 40 = a ∧ 1 ≤ a ∧ a ≤ 40 := ⟨_, rfl, by omega, by omega⟩
  have hR4 := right4 hr0 hr1 hr2 hr3
  have hrr : TCfg.right ⟨a0, a1, a2, a3, G⟩ := right_idle hR4
  rw [hG, ha0, ha1, ha2, ha3]
  have hb0 : Below w.heap.size w ((w.alloc (.cells #[.int .u8 s0, .int .u8 s1, .int .u8 s2, .int .u8 s3] 56)).alloc (.cells #[.int .i64 a0, .int .i64 a1, .int .i64 a2, .int .i64 a3] 29)) := below_alloc (below_alloc (Below.refl _ _) _) _
  have RB := Blk.new (w.alloc (.cells #[.int .u8 s0, .int .u8 s1, .int .u8 s2, .int .u8 s3] 56)) 29 #[.int .i64 a0, .int .i64 a1, .int .i64 a2, .int .i64 a3]
  rw [World.size_alloc] at RB
  obtain ⟨rb, hrb⟩ : ∃ rb, w.heap.size + 1 = rb := ⟨_, rfl⟩
  rw [hrb] at RB ⊢
  generalize (w.alloc (.cells #[.int .u8 s0, .int .u8 s1, .int .u8 s2, .int .u8 s3] 56)).alloc (.cells #[.int .i64 a0, .int .i64 a1, .int .i64 a2, .int .i64 a3] 29) = w1 at *
  clear ha0 ha1 ha2 ha3 hG hbm hb8 hg8 h08 h18 h28 h38 hwg hw0 hw1 hw2 hw3 tg t0 t1 t2 t3
  have NW : Calls Try.prog 7 #[.int .i64 bm, .agg #[.int .i64 a0, .int .i64 a1, .int .i64 a2, .int .i64 a3], .int .i64 G] w1 _ := tabn_new (w0 := w) (w := w1) (K := fun b => b = rb) bm (by omega) a0 a1 a2 a3 hR4 G ⟨hGr.1, by omega⟩ hb0 (fun b hb => by have := RB.lt; omega) hrr
  obtain ⟨n, hn⟩ : ∃ n : Nat, 2 ^ bm = n := ⟨_, rfl⟩
  rw [hn] at NW
  have hn16 : n ≤ 16 := by rw [← hn]; exact Nat.le_trans (Nat.pow_le_pow_right (by omega) hbm4) (by decide)
  clear hn
  have c0 : w1.cell? ⟨rb, 0, none⟩ = some (.int .i64 a0) := RB.cell 0
  have c1 : w1.cell? ⟨rb, 1, none⟩ = some (.int .i64 a1) := RB.cell 1
  have c2 : w1.cell? ⟨rb, 2, none⟩ = some (.int .i64 a2) := RB.cell 2
  have c3 : w1.cell? ⟨rb, 3, none⟩ = some (.int .i64 a3) := RB.cell 3
  replace NW := Lib.hid NW
  replace RB := Lib.hid RB
  go_upto_region 8 with (go_at_call 7; (with_reducible refine NW.out.mono ?_); rintro e w2 ⟨g, sb, rfl, hT0, hb2⟩)
  have hR2 := RB.out.call hb2
  clear NW RB c0 c1 c2 c3 hb0 hb2
  have hmb := run_make_row' (P := Try.prog) 58 4 (.bool false) 1 Try.underlying58 info_boolT rfl .i64 .i64 l.length (by omega) (by omega)
  have hmi := run_make_row' (P := Try.prog) 59 3 (.int .i64 0) 8 Try.underlying59 info_intT rfl .i64 .i64 l.length (by omega) (by omega)
  obtain ⟨i0, hi0, hz0, hz1, hz2⟩ := info_parts info_ent
  have hme : ∀ W : World, (Instr.makeSlice 30 (.int .i64 (l.length : Int)) (.int .i64 (l.length : Int))).run Try.prog W = .ok (.slice (some ⟨W.heap.size, 0, none⟩) l.length l.length) (W.alloc (.cells (madeCells slt0.entA (l.length * 14)) 43)) := fun W => by
    have := run_make (P := Try.prog) W 30 43 i0 _ Try.underlying30 hi0 hz0 .i64 .i64 l.length l.length (by omega) (by omega) (by rw [hz2]; omega) (by omega)
    rw [hz1] at this
    exact this
  clear hi0 hz0 hz1 hz2
  replace hT0 := Lib.hid hT0
  replace hR2 := Lib.hid hR2
  go_cut [13, 14] from 66 to 71 (fun x13 x14 wx => ∃ hb db : Nat, x13 = .slice (some ⟨hb, 0, none⟩) l.length l.length ∧ x14 = .slice (some ⟨db, 0, none⟩) l.length l.length ∧ (wx.rowIs hb 4 l.length (fun _ => .bool false) ∧ wx.rowIs db 3 l.length (fun _ => .int .i64 0)) ∧ hb ≠ db ∧ w2.heap.size ≤ hb ∧ w2.heap.size ≤ db ∧ Below w2.heap.size w2 wx)
  case first =>
    go_region
    · have r1 := rowIs_alloc (World.rowIs_made w2 (.bool false) l.length 4) (.cells (madeCells #[.int .i64 0] l.length) 3)
      have r2 := World.rowIs_made (w2.alloc (.cells (madeCells #[.bool false] l.length) 4)) (.int .i64 0) l.length 3
      rw [World.size_alloc] at r2
      go_wp2_with fail
      go_meet
      exact ⟨_, _, rfl, rfl, ⟨r1, r2⟩, by omega, by omega, by omega, (below_alloc (below_alloc (Below.refl _ _) _) _).drew⟩
    · have r1 := rowIs_alloc (World.rowIs_made w2 (.int .i64 0) l.length 3) (.cells (madeCells #[.bool false] l.length) 4)
      have r2 := World.rowIs_made (w2.alloc (.cells (madeCells #[.int .i64 0] l.length) 3)) (.bool false) l.length 4
      rw [World.size_alloc] at r2
      go_wp2_with fail
      go_meet
      exact ⟨_, _, rfl, rfl, ⟨r2, r1⟩, by omega, by omega, by omega, (below_alloc (below_alloc (Below.refl _ _) _) _).drew⟩
  case rest =>
    obtain ⟨hb, db, rfl, rfl, ⟨r1, r2⟩, hne, hg1, hg2, hbc⟩ := hcut
    go_upto_region 10 with fail
    have hba := below_alloc (Below.refl wc.heap.size wc) (.cells (madeCells slt0.entA (l.length * 14)) 43)
    have hE := ents_made wc l.length
    have hba2 := below_chain hba hbc
    have hT1 := hT0.out.call hba2
    have r1' := rowIs_alloc r1 (.cells (madeCells slt0.entA (l.length * 14)) 43)
    have r2' := rowIs_alloc r2 (.cells (madeCells slt0.entA (l.length * 14)) 43)
    have hR3 := hR2.out.call hba2
    have hl1 := r1.lt
    have hl2 := r2.lt
    have hl3 := hR2.out.lt
    have hl4 := hbc.size
    have hl5 := hT0.out.size
    have hsz : (wc.alloc (.cells (madeCells slt0.entA (l.length * 14)) 43)).heap.size = wc.heap.size + 1 := World.size_alloc _ _
    obtain ⟨eb, heb⟩ : ∃ eb, wc.heap.size = eb := ⟨_, rfl⟩
    rw [heb] at hE hl1 hl2 hl4 hsz
    try rw [heb]
    have hVM : VM w.heap.size (wc.alloc (.cells (madeCells slt0.entA (l.length * 14)) 43)) hb db eb rb l.length ⟨a0, a1, a2, a3, G⟩ ⟨fun _ => false, fun _ => 0, fun _ => slt0⟩ := ⟨r1', r2', hE, hR3, by omega, by omega⟩
    have hT2 := hT1.mono (K' := vmK hb db eb rb) (fun b hb => by
      rcases hb with rfl | rfl | rfl | rfl
      · exact .inr ⟨hg1, by omega⟩
      · exact .inr ⟨hg2, by omega⟩
      · exact .inr ⟨hl4, by omega⟩
      · exact .inl rfl)
    generalize wc.alloc (.cells (madeCells slt0.entA (l.length * 14)) 43) = w3 at *
    clear hba hba2 hT1 r1' r2' hR3 hE r1 r2 hT0 hR2 hbc hmb hmi hme hsz hR4
    replace hT2 := Lib.hid hT2
    replace hVM := Lib.hid hVM
    go_wp2_with fail
    go_loopg [16] 141 (fun gk iv wr => ∃ (t : Nat) (s : TSt) (D : DSt), t + gk = 141 ∧ iv = .int .i64 (t : Nat) ∧ TabN w wr g sb n ⟨a0, a1, a2, a3, G⟩ s (vmK hb db eb rb) ∧ DI n G l.length (30 * (t : Int)) s D ∧ s.now ≤ t ∧ VM w.heap.size wr hb db eb rb l.length ⟨a0, a1, a2, a3, G⟩ D ∧ ∀ i, i < l.length → 0 ≤ D.due i ∧ D.due i ≤ 2000)
    case atStart => exact ⟨0, _, _, by omega, rfl, hT2.out, (DI.new n G l.length).weak (by omega), Int.le_refl 0, hVM.out, fun i _ => by show (0 : Int) ≤ 0 ∧ (0 : Int) ≤ 2000; omega⟩
    case round =>
      obtain ⟨t, s, D, hk, rfl, hT, hD, hnow, hV, hdu⟩ := hrel
      clear hT2 hVM
      by_cases hlt : t < 141
      · have hlti : (t : Int) ≤ 140 := by omega
        have GO := tabn_go hT hV.lt t
        rw [goE_zero ⟨hnow, by omega⟩] at GO
        have hti := hT.ti
        replace GO := Lib.hid GO
        replace hT := Lib.hid hT
        replace hV := Lib.hid hV
        replace hD := Lib.hid hD
        replace hti := Lib.hid hti
        replace hdu := Lib.hid hdu
        go_upto_region 16 with (go_at_call 15; (with_reducible refine GO.out.mono ?_); rintro e y1 ⟨B1, q1, S, rfl, hS, -, -, hT1, hc1⟩)
        obtain ⟨hD1, hn1⟩ := hD.out.go hti.out hGr.1 hS ⟨hnow, by omega⟩ (by omega)
        have hV1 := hV.out.chg hc1 (fun b h => h.2)
        clear GO hT hV hD hti hS hc1
        generalize goTab n s t S = s1 at *
        have hti1 := hT1.ti
        have LV := Lib.hid (tabn_live hT1)
        replace hT1 := Lib.hid hT1
        replace hV1 := Lib.hid hV1
        go_upto_region 17 with (go_at_call 8; (with_reducible refine LV.out.mono ?_); rintro e y2 ⟨A, q, rfl, hO, hb3⟩)
        have hVl : ∀ b, vmK hb db eb rb b → b < y1.heap.size := hV1.out.lt
        have hT2 := (hT1.out.call hb3).mono (K' := fun b => vmK hb db eb rb b ∨ InB A b) (fun b hb => hb.imp id fun h => hO.block h)
        have hV2 := hV1.out.call hb3
        have hheld : ∀ j, 0 ≤ j → j < l.length → D.had j = true → (heldB (liveL n s1) (D.en j) = true ↔ alive s1 (D.en j)) := fun j _ hj hh => held_iff hti1 (hD1.ok j hj hh)
        have hLl : (liveL n s1).length ≤ 1000000 := by
          have := live_free hti1
          omega
        obtain ⟨LL, hLL⟩ : ∃ LL, liveL n s1 = LL := ⟨_, rfl⟩
        rw [hLL] at hheld hO hLl
        try rw [hLL]
        obtain ⟨z1, hz1⟩ : ∃ z1, y1.heap.size = z1 := ⟨_, rfl⟩
        rw [hz1] at hVl hO
        clear LV hT1 hV1 hti1 hLL hb3 hz1
        replace hT2 := Lib.hid hT2
        replace hV2 := Lib.hid hV2
        replace hD1 := Lib.hid hD1
        replace hheld := Lib.hid hheld
        replace hO := Lib.hid hO
        replace hVl := Lib.hid hVl
        replace hn1 := Lib.hid hn1
        obtain ⟨wo, rfl⟩ : ∃ wo, wo = wr := ⟨wr, rfl⟩
        obtain ⟨go_, rfl⟩ : ∃ go_, go_ = gk := ⟨gk, rfl⟩
        go_wp2_with fail
        go_loopg [20] l.length (fun g2 iv wx => ∃ (i : Nat) (s : TSt) (D : DSt), i + g2 = l.length ∧ iv = .int .i64 (i : Nat) ∧ TabN w wx g sb n ⟨a0, a1, a2, a3, G⟩ s (fun b => vmK hb db eb rb b ∨ InB A b) ∧ DI n G l.length (30 * (t : Int) + 1 + 2 * (i : Int)) s D ∧ s.now = t ∧ VM w.heap.size wx hb db eb rb l.length ⟨a0, a1, a2, a3, G⟩ D ∧ OwnE wx z1 A q LL ∧ (∀ j, i ≤ j → j < l.length → D.had j = true → (heldB LL (D.en j) = true ↔ alive s (D.en j))) ∧ ∀ i, i < l.length → 0 ≤ D.due i ∧ D.due i ≤ 2000)
        case atStart => exact ⟨0, s1, D, by omega, rfl, hT2.out, hD1.out.weak (by omega), hn1.out, hV2.out, hO.out, hheld.out, hdu.out⟩
        case round =>
          clear hT2 hD1 hn1 hV2 hO hheld hdu s1 D s hnow
          obtain ⟨i, s, D, hki, rfl, hT, hD, hn, hV, hO, hheld, hdu⟩ := hrel
          by_cases hil : i < l.length
          · have hili : (i : Int) < (l.length : Int) := by omega
            replace hT := Lib.hid hT
            replace hV := Lib.hid hV
            replace hD := Lib.hid hD
            replace hO := Lib.hid hO
            replace hheld := Lib.hid hheld
            replace hdu := Lib.hid hdu
            obtain ⟨ad, rfl⟩ : ∃ ad, B = some ad := by
              obtain ⟨ad, e, -⟩ := vis_at (hr.out.below hT.out.below) hil
              exact ⟨ad, e⟩
            have hvw := hv l[i] (List.getElem_mem hil)
            have HV := Lib.hid fun W (h : Below w.heap.size w W) => (vis_at2 (hr.out.below h) hil).2
            generalize l[i] = vi at *
            obtain ⟨va, vt, vf, vu⟩ := vi
            obtain ⟨hva, hvt⟩ := hvw
            dsimp only at hva hvt HV
            have hok := hD.out.ok i hil
            have hh0 := hheld.out i (Nat.le_refl _) hil
            have hdi := hdu.out i hil
            have hsoon := hD.out.soon
            obtain ⟨hd, hhd⟩ : ∃ h, D.had i = h := ⟨_, rfl⟩
            obtain ⟨du, hdd⟩ : ∃ d, D.due i = d := ⟨_, rfl⟩
            obtain ⟨x, hx⟩ : ∃ x, D.en i = x := ⟨_, rfl⟩
            obtain ⟨bi, hbi⟩ : ∃ b, heldB LL x = b := ⟨_, rfl⟩
            rw [hhd, hdd, hx] at hok
            rw [hhd, hx, hbi] at hh0
            rw [hdd] at hdi
            have hcase : hd = false ∨ (hd = true ∧ bi = true ∧ ¬ (du + G ≤ (t : Int))) ∨ (hd = true ∧ bi = false ∧ ¬ ((t : Int) < du)) := by
              cases hd
              · exact .inl rfl
              · right
                have ho := hok rfl
                have hi2 := hh0 rfl
                cases bi
                · right
                  have hna : ¬ alive s x := fun h => by cases hi2.2 h
                  have := (ho.dead hna).1
                  exact ⟨rfl, rfl, by omega⟩
                · left
                  obtain ⟨h1, k2, h2, h3, h4, h5⟩ := ho.live (hi2.1 rfl)
                  have := hsoon k2 h2 h5
                  rw [h4, h1] at this
                  exact ⟨rfl, rfl, by omega⟩
            have c21 : wr.cell? ⟨hb, i, none⟩ = some (.bool hd) := by rw [← hhd]; exact hV.out.had.cell hil
            have HE := Lib.hid (hV.out.en.cells14 hil hx)
            have HL := Lib.hid (held19 wr _ _ _ _ hO.out hLl x)
            rw [hbi] at HL
            clear hok hh0 hsoon
            replace hhd := Lib.hid hhd
            replace hdd := Lib.hid hdd
            replace hx := Lib.hid hx
            replace hbi := Lib.hid hbi
            go_upto_region 20 with fail
            go_cut [21] from 95 to 106 (fun x21 wx => x21 = .bool (hd && bi) ∧ Below wr.heap.size wr wx)
            case first =>
              as_aux_lemma =>
              cases hd
              · go_wp2_with fail
                go_meet
                exact ⟨rfl, Below.refl _ _⟩
              · obtain ⟨e0, e1, e2, e3, e4, e5, e6, e7, e8, e9, e10, e11, e12, e13⟩ := HE.out
                go_wp2_with (go_at_call 19; (with_reducible refine HL.out.mono ?_); rintro e y3 ⟨rfl, hb5⟩)
                go_meet
                exact ⟨by simp, hb5⟩
            case rest =>
              obtain ⟨rfl, hbA⟩ := hcut
              have hT3 := hT.out.call0 hbA
              have hV3 := hV.out.call hbA
              have hO3 := hO.out.call hbA
              have c22 : wc.cell? ⟨hb, i, none⟩ = some (.bool hd) := by rw [← hhd.out]; exact hV3.had.cell hil
              have d22 : wc.cell? ⟨db, i, none⟩ = some (.int .i64 du) := by rw [← hdd.out]; exact hV3.due.cell hil
              have HE3 := Lib.hid (hV3.en.cells14 hil hx.out)
              obtain ⟨v0, v1, v2, v3⟩ := HV.out wc hT3.below
              clear hT hV hO HL HE hbA c21
              replace hT3 := Lib.hid hT3
              replace hV3 := Lib.hid hV3
              replace hO3 := Lib.hid hO3
              replace v0 := Lib.hid v0
              replace v2 := Lib.hid v2
              replace v3 := Lib.hid v3
              replace hva := Lib.hid hva
              go_upto_region 21 with fail
              go_cut [135] from 107 to 135 (fun x135 wx => x135 = .bool false ∧ wx = wc)
              case first =>
                as_aux_lemma =>
                rcases hcase with rfl | ⟨rfl, rfl, hcs⟩ | ⟨rfl, rfl, hcs⟩
                · go_wp2_with fail
                  go_meet
                  exact ⟨rfl, rfl⟩
                · have xw : wrap64 (du + G) = du + G := by unfold wrap64; omega
                  have x1 : decide (du + G ≤ (t : Int)) = false := by simp; omega
                  by_cases hlt2 : (t : Int) < du
                  case' pos => have x2 : decide ((t : Int) < du) = true := by simp; omega
                  case' neg => have x2 : decide ((t : Int) < du) = false := by simp; omega
                  all_goals
                    clear hcs hlt2
                    go_wp2_with fail
                    go_meet
                    exact ⟨rfl, rfl⟩
                · have xw : wrap64 (du + G) = du + G := by unfold wrap64; omega
                  have x1 : decide ((t : Int) < du) = false := by simp; omega
                  by_cases hlt2 : du + G ≤ (t : Int)
                  case' pos => have x2 : decide (du + G ≤ (t : Int)) = true := by simp; omega
                  case' neg => have x2 : decide (du + G ≤ (t : Int)) = false := by simp; omega
                  all_goals
                    clear hcs hlt2
                    go_wp2_with fail
                    go_meet
                    exact ⟨rfl, rfl⟩
              case rest =>
                obtain ⟨rfl, rfl⟩ := hcut
                obtain ⟨bq, hbq⟩ : ∃ b, ((t : Int) == vt % 81) = b := ⟨_, rfl⟩
                have htm : vt.tmod 81 = vt % 81 := Int.tmod_eq_emod_of_nonneg (by omega)
                have hwt := u8w hvt
                have hbi2 : hd = true → bi = true → alive s x := fun e1 e2 => by
                  have := hheld.out i (Nat.le_refl _) hil
                  rw [hhd.out, hx.out, hbi.out] at this
                  exact (this e1).1 e2
                clear hcase
                go_upto_region 23 with fail
                go_cut [153] from 136 to 153 (fun x153 wx => x153 = .bool (hd && bi && bq) ∧ wx = wc)
                case first =>
                  as_aux_lemma =>
                  cases hd <;> cases bi
                  case true.true =>
                    cases bq
                    all_goals
                      go_wp2_with fail
                      go_meet
                      exact ⟨by simp, rfl⟩
                  all_goals
                    clear hbq
                    go_wp2_with fail
                    go_meet
                    exact ⟨by simp, rfl⟩
                case rest =>
                  obtain ⟨rfl, rfl⟩ := hcut
                  obtain ⟨b3, hb3⟩ : ∃ b, (hd && bi && bq) = b := ⟨_, rfl⟩
                  rw [hb3]
                  have hal : b3 = true → D.had i = true ∧ alive s x := fun e => by
                    rw [← hb3, Bool.and_eq_true, Bool.and_eq_true] at e
                    exact ⟨hhd.out.trans e.1.1, hbi2 e.1.1 e.1.2⟩
                  replace hbq := Lib.hid hbq
                  replace hb3 := Lib.hid hb3
                  replace hal := Lib.hid hal
                  clear hbi2 c22 htm hwt v1
                  go_upto_if 153 with fail
                  go_cut [22, 23] from 154 to 205 (fun x22 x23 wx => ∃ (s' : TSt) (D' : DSt), TabN w wx g sb n ⟨a0, a1, a2, a3, G⟩ s' (fun b => vmK hb db eb rb b ∨ InB A b) ∧ DI n G l.length (30 * (t : Int) + 1 + 2 * (i : Int) + 1) s' D' ∧ s'.now = t ∧ VM w.heap.size wx hb db eb rb l.length ⟨a0, a1, a2, a3, G⟩ D' ∧ OwnE wx z1 A q LL ∧ (∀ j, i + 1 ≤ j → j < l.length → D'.had j = true → (heldB LL (D'.en j) = true ↔ alive s' (D'.en j))) ∧ ∀ i, i < l.length → 0 ≤ D'.due i ∧ D'.due i ≤ 2000)
                  case first =>
                    as_aux_lemma =>
                    cases b3
                    · go_wp2_with fail
                      go_meet
                      exact ⟨s, D, hT3.out, hD.out.weak (by omega), hn, hV3.out, hO3.out, fun j hj => hheld.out j (by omega), hdu.out⟩
                    · obtain ⟨hhi, hax⟩ := hal.out rfl
                      have hTo := hD.out.touch hT3.out.ti hrr hGr.1 (by omega) hil hhi (by rw [hx.out]; exact hax) vf
                      rw [hx.out] at hTo
                      obtain ⟨tk1, tk2, tk3, tk4, tk5⟩ := hTo
                      have hbz := below_alloc (Below.refl wc.heap.size wc) (.cells #[.int .i64 0, .bool false, .int .u64 0, .int .u64 0, .bool false, .int .u64 0, .int .u64 0, .int .i64 0, .int .i64 0, .int .i64 0, .int .i64 0, .int .i64 0, .int .u64 0, .int .i64 0] 43)
                      have hKA : ∀ b, (vmK hb db eb rb b ∨ InB A b) → b < wc.heap.size := fun b h => h.elim (hV3.out.lt b) (fun h => (hO3.out.block h).2)
                      have TKA : Calls Try.prog 13 #[.pointer (some ⟨g, 0, none⟩), .int .i64 x.sl, .int .i64 vf] wc.drew _ := tabn_touch hT3.out.drew hKA x.sl vf
                      have TKB : Calls Try.prog 13 #[.pointer (some ⟨g, 0, none⟩), .int .i64 x.sl, .int .i64 vf] (wc.alloc (.cells #[.int .i64 0, .bool false, .int .u64 0, .int .u64 0, .bool false, .int .u64 0, .int .u64 0, .int .i64 0, .int .i64 0, .int .i64 0, .int .i64 0, .int .i64 0, .int .u64 0, .int .i64 0] 43)).drew _ := tabn_touch (hT3.out.alloc (.cells #[.int .i64 0, .bool false, .int .u64 0, .int .u64 0, .bool false, .int .u64 0, .int .u64 0, .int .i64 0, .int .i64 0, .int .i64 0, .int .i64 0, .int .i64 0, .int .u64 0, .int .i64 0] 43)).drew (fun b h => by
                        show b < (wc.alloc (.cells #[.int .i64 0, .bool false, .int .u64 0, .int .u64 0, .bool false, .int .u64 0, .int .u64 0, .int .i64 0, .int .i64 0, .int .i64 0, .int .i64 0, .int .i64 0, .int .u64 0, .int .i64 0] 43)).heap.size
                        rw [World.size_alloc]
                        rcases h with h | h
                        · have := hKA b h
                          omega
                        · omega) x.sl vf
                      rw [tk1] at TKA TKB
                      obtain ⟨tv, htv⟩ : ∃ v, touchV ⟨a0, a1, a2, a3, G⟩ n s x.sl vf = v := ⟨_, rfl⟩
                      obtain ⟨ts, hts⟩ : ∃ v, touchS ⟨a0, a1, a2, a3, G⟩ n s x.sl vf = v := ⟨_, rfl⟩
                      rw [htv, hts] at TKA TKB
                      rw [htv] at tk2
                      rw [hts] at tk3 tk5
                      rw [htv, hts, ← tk2, hn] at tk4
                      have HS := Lib.hid fun W (hb' : Below w.heap.size w W) (hc : Chg (Nk w (fun b => vmK hb db eb rb b ∨ InB A b)) wc W) => show Below w.heap.size w W ∧ W.cell? ⟨eb, i * 14 + 11, none⟩ = some (.int .i64 x.sl) ∧ W.cell? ⟨(ad.add (i * 4)).block, (ad.add (i * 4)).off + 2, none⟩ = some (.int .i64 vf) from ⟨hb', ((hV3.out.chg hc (fun b h e => h.2 (.inl e))).en.cells14 hil hx.out).2.2.2.2.2.2.2.2.2.2.2.1, (HV.out W hb').2.2.1⟩
                      have hbw3 := hT3.out.below.drew
                      have ce11 := HE3.out.2.2.2.2.2.2.2.2.2.2.2.1
                      have v2' := v2.out
                      have hKc := Lib.hid fun W (hc : Chg (Nk w (fun b => vmK hb db eb rb b ∨ InB A b)) wc W) => And.intro (hV3.out.chg hc (fun b h e => h.2 (.inl e))) (OwnA.chg hO3.out hc (fun b hb e => e.2 (.inr hb)))
                      have hwz := hT3.out.size
                      have hd2 := hdu.out
                      have hh2 := hheld.out
                      have hBz : Blk (wc.alloc (.cells #[.int .i64 0, .bool false, .int .u64 0, .int .u64 0, .bool false, .int .u64 0, .int .u64 0, .int .i64 0, .int .i64 0, .int .i64 0, .int .i64 0, .int .i64 0, .int .u64 0, .int .i64 0] 43)) wc.heap.size 43 slt0.entA := Blk.new wc 43 #[.int .i64 0, .bool false, .int .u64 0, .int .u64 0, .bool false, .int .u64 0, .int .u64 0, .int .i64 0, .int .i64 0, .int .i64 0, .int .i64 0, .int .i64 0, .int .u64 0, .int .i64 0]
                      replace TKA := Lib.hid TKA
                      replace TKB := Lib.hid TKB
                      replace hBz := Lib.hid hBz
                      replace hbz := Lib.hid hbz
                      have hS0 : Below w.heap.size w wc.drew ∧ wc.drew.cell? ⟨eb, i * 14 + 11, none⟩ = some (.int .i64 x.sl) ∧ wc.drew.cell? ⟨(ad.add (i * 4)).block, (ad.add (i * 4)).off + 2, none⟩ = some (.int .i64 vf) := ⟨hT3.out.below.drew, (cell_drew _ _).trans ce11, (cell_drew _ _).trans v2'⟩
                      have hbw4 : wc.cell? ⟨(ad.add (i * 4)).block, (ad.add (i * 4)).off + 2, none⟩ = some (.int .i64 vf) := v2'
                      replace hKA := Lib.hid hKA
                      replace tk2 := Lib.hid tk2
                      replace tk3 := Lib.hid tk3
                      replace tk4 := Lib.hid tk4
                      replace tk5 := Lib.hid tk5
                      replace hd2 := Lib.hid hd2
                      replace hh2 := Lib.hid hh2
                      clear tk1 htv hts hT3 hV3 hO3 hD hheld hdu HE3 v0 v2 v3 hbq hb3 hal hhi hax v2'
                      go_upto_region 24 with fail
                      go_cut [22, 23] from 154 to 168 (fun x22 x23 wx => ∃ r, x22 = .pointer (some ⟨r, 0, none⟩) ∧ x23 = .bool true ∧ wc.heap.size ≤ r ∧ Blk wx r 43 tv.entA ∧ TabN w wx g sb n ⟨a0, a1, a2, a3, G⟩ ts (fun b => (vmK hb db eb rb b ∨ InB A b) ∨ b = r) ∧ Chg (Nk w (fun b => vmK hb db eb rb b ∨ InB A b)) wc wx)
                      case first =>
                        clear hKc tk2 tk3 tk4 tk5 hd2 hh2 hhd hdd hx hbi HV hva hvt hr
                        have DR := Lib.hid (show ∀ y, (TabN w y g sb n ⟨a0, a1, a2, a3, G⟩ ts (fun b => vmK hb db eb rb b ∨ InB A b) ∧ Chg (Nk w (fun b => vmK hb db eb rb b ∨ InB A b)) wc y) → (Below w.heap.size w (y.alloc (.cells #[.int .i64 0, .bool false, .int .u64 0, .int .u64 0, .bool false, .int .u64 0, .int .u64 0, .int .i64 0, .int .i64 0, .int .i64 0, .int .i64 0, .int .i64 0, .int .u64 0, .int .i64 0] 43)) ∧ Chg (Nk w (fun b => vmK hb db eb rb b ∨ InB A b)) wc (y.alloc (.cells #[.int .i64 0, .bool false, .int .u64 0, .int .u64 0, .bool false, .int .u64 0, .int .u64 0, .int .i64 0, .int .i64 0, .int .i64 0, .int .i64 0, .int .i64 0, .int .u64 0, .int .i64 0] 43))) ∧ Blk (setEnt (y.alloc (.cells #[.int .i64 0, .bool false, .int .u64 0, .int .u64 0, .bool false, .int .u64 0, .int .u64 0, .int .i64 0, .int .i64 0, .int .i64 0, .int .i64 0, .int .i64 0, .int .u64 0, .int .i64 0] 43)) y.heap.size tv) y.heap.size 43 tv.entA ∧ TabN w (setEnt (y.alloc (.cells #[.int .i64 0, .bool false, .int .u64 0, .int .u64 0, .bool false, .int .u64 0, .int .u64 0, .int .i64 0, .int .i64 0, .int .i64 0, .int .i64 0, .int .i64 0, .int .u64 0, .int .i64 0] 43)) y.heap.size tv) g sb n ⟨a0, a1, a2, a3, G⟩ ts (fun b => (vmK hb db eb rb b ∨ InB A b) ∨ b = y.heap.size) ∧ Chg (Nk w (fun b => vmK hb db eb rb b ∨ InB A b)) wc (setEnt (y.alloc (.cells #[.int .i64 0, .bool false, .int .u64 0, .int .u64 0, .bool false, .int .u64 0, .int .u64 0, .int .i64 0, .int .i64 0, .int .i64 0, .int .i64 0, .int .i64 0, .int .u64 0, .int .i64 0] 43)) y.heap.size tv) from fun y h => ⟨⟨below_alloc h.1.below _, h.2.alloc _⟩, tab_local (z := slt0) (Blk.new y 43 slt0.entA) (h.1.alloc _) (h.2.alloc _) h.2.size hwz tv⟩)
                        have DB := Lib.hid (show ∀ y, (TabN w y g sb n ⟨a0, a1, a2, a3, G⟩ ts (fun b => (vmK hb db eb rb b ∨ InB A b) ∨ b = wc.heap.size) ∧ Chg (Nk w (fun b => vmK hb db eb rb b ∨ InB A b)) wc y ∧ Blk y wc.heap.size 43 slt0.entA) → Blk (setEnt y wc.heap.size tv) wc.heap.size 43 tv.entA ∧ TabN w (setEnt y wc.heap.size tv) g sb n ⟨a0, a1, a2, a3, G⟩ ts (fun b => (vmK hb db eb rb b ∨ InB A b) ∨ b = wc.heap.size) ∧ Chg (Nk w (fun b => vmK hb db eb rb b ∨ InB A b)) wc (setEnt y wc.heap.size tv) from fun y h => tab_local h.2.2 h.1 h.2.1 (Nat.le_refl _) hwz tv)
                        refine region24 (w := w) (wc := wc) (g := g) (eb := eb) (m := l.length) (i := i) (dd := d) (ad := ad) (sl := x.sl) (vf := vf) (tv := tv) (A := fun y => TabN w y g sb n ⟨a0, a1, a2, a3, G⟩ ts (fun b => vmK hb db eb rb b ∨ InB A b) ∧ Chg (Nk w (fun b => vmK hb db eb rb b ∨ InB A b)) wc y) (B := fun y => TabN w y g sb n ⟨a0, a1, a2, a3, G⟩ ts (fun b => (vmK hb db eb rb b ∨ InB A b) ∨ b = wc.heap.size) ∧ Chg (Nk w (fun b => vmK hb db eb rb b ∨ InB A b)) wc y ∧ Blk y wc.heap.size 43 slt0.entA) (fun _ _ _ _ _ h => h) (fun k hk => Nat.lt_of_lt_of_le hk (Nat.le_of_ble_eq_true rfl)) rfl rfl rfl rfl (by omega) hili hS0 ?tA ?tB ?sA ?sB0 ?sB ?kA ?kB
                        case tA => exact TKA.out.mono fun e y h => ⟨h.1, h.2.1, h.2.2.undrew⟩
                        case tB =>
                          refine Calls.mono (show Calls Try.prog 13 #[.pointer (some ⟨g, 0, none⟩), .int .i64 x.sl, .int .i64 vf] (wc.alloc (.cells #[.int .i64 0, .bool false, .int .u64 0, .int .u64 0, .bool false, .int .u64 0, .int .u64 0, .int .i64 0, .int .i64 0, .int .i64 0, .int .i64 0, .int .i64 0, .int .u64 0, .int .i64 0] 43)).drew _ from TKB.out) fun e y h => ⟨h.1, h.2.1, ?_, ?_⟩
                          · exact Chg.trans (F := Nk w (fun b => vmK hb db eb rb b ∨ InB A b)) (Chg.of_below hbz.out) h.2.2.undrew (fun b _ h => ⟨h.1, fun e => h.2 (.inl e)⟩)
                          · exact hBz.out.chg h.2.2.undrew (fun e => e.2 (.inr rfl))
                        case sA =>
                          intro y hA
                          obtain ⟨⟨h1, h2⟩, -, h4, h5⟩ := DR.out y hA
                          exact ⟨HS.out y hA.1.below hA.2, HS.out _ h1 h2, HS.out _ h4.below h5⟩
                        case sB0 => exact HS.out (wc.drew.alloc (.cells #[.int .i64 0, .bool false, .int .u64 0, .int .u64 0, .bool false, .int .u64 0, .int .u64 0, .int .i64 0, .int .i64 0, .int .i64 0, .int .i64 0, .int .i64 0, .int .u64 0, .int .i64 0] 43)) (below_alloc hbw3 _) ((Chg.refl _ wc).drew.alloc _)
                        case sB =>
                          intro y hB
                          obtain ⟨-, h4, h5⟩ := DB.out y hB
                          exact ⟨HS.out y hB.1.below hB.2.1, hB.2.2, HS.out _ h4.below h5⟩
                        case kA =>
                          intro y hA
                          obtain ⟨-, h3, h4, h5⟩ := DR.out y hA
                          have h6 := hA.2.size
                          generalize setEnt (y.alloc (.cells #[.int .i64 0, .bool false, .int .u64 0, .int .u64 0, .bool false, .int .u64 0, .int .u64 0, .int .i64 0, .int .i64 0, .int .i64 0, .int .i64 0, .int .i64 0, .int .u64 0, .int .i64 0] 43)) y.heap.size tv = yz at *
                          generalize y.heap.size = r at *
                          clear DR DB TKA TKB hA hBz hbz HS
                          replace h3 := Lib.hid h3
                          replace h4 := Lib.hid h4
                          replace h5 := Lib.hid h5
                          simp only [fr24, Act.put, List.setIfInBounds_toArray, List.set_cons_zero, List.set_cons_succ]
                          go_wp2_with fail
                          go_meet
                          exact ⟨r, rfl, rfl, h6, h3.out, h4.out, h5.out⟩
                        case kB =>
                          intro y hB
                          obtain ⟨h3, h4, h5⟩ := DB.out y hB
                          generalize setEnt y wc.heap.size tv = yz at *
                          clear DR DB TKA TKB hB hBz hbz HS
                          replace h3 := Lib.hid h3
                          replace h4 := Lib.hid h4
                          replace h5 := Lib.hid h5
                          simp only [fr24, Act.put, List.setIfInBounds_toArray, List.set_cons_zero, List.set_cons_succ]
                          go_wp2_with fail
                          go_meet
                          exact ⟨wc.heap.size, rfl, rfl, Nat.le_refl _, h3.out, h4.out, h5.out⟩
                      case rest =>
                       as_aux_lemma =>
                        obtain ⟨r, rfl, rfl, hrg, hB5, hT5, hc5⟩ := hcut
                        obtain ⟨hV5, hO5⟩ := hKc.out wc hc5
                        have f10 : wc.cell? ⟨r, 10, none⟩ = some (.int .i64 tv.st) := hB5.cell 10
                        have e10 := (hV5.en.cells14 hil hx.out).2.2.2.2.2.2.2.2.2.2.1
                        have v2 := (HV.out wc hT5.below).2.2.1
                        have NX := Lib.hid fun m : Nat => show Calls Try.prog 20 #[.int .i64 x.st, .int .i64 vf] (wc.drewN m) fun e w' => e = .returned (.int .i64 tv.st) ∧ w' = wc.drewN m from (refnext_any x.st vf _).mono fun _ _ h => And.intro (by rw [h.1, tk2.out]) h.2.symm
                        have hne : (tv.st != tv.st) = false := by simp
                        obtain ⟨g1, g2, g3, g4⟩ := hV5.ge
                        have hvl : hb < r ∧ db < r ∧ eb < r ∧ rb < r := by
                          have := hKA.out hb (.inl (.inl rfl))
                          have := hKA.out db (.inl (.inr (.inl rfl)))
                          have := hKA.out eb (.inl (.inr (.inr (.inl rfl))))
                          have := hKA.out rb (.inl (.inr (.inr (.inr rfl))))
                          omega
                        have hvz : hb < z1 ∧ db < z1 ∧ eb < z1 := ⟨hVl.out hb (.inl rfl), hVl.out db (.inr (.inl rfl)), hVl.out eb (.inr (.inr (.inl rfl)))⟩
                        replace hV5 := Lib.hid hV5
                        replace hO5 := Lib.hid hO5
                        replace hB5 := Lib.hid hB5
                        replace hT5 := Lib.hid hT5
                        clear hKc hKA hc5 HV
                        go_upto_region 25 with fail
                        go_quiet (first | (go_at_call 20; with_reducible exact Calls.quiet_of_same (NX.out _)))
                        have hb6 := below_drewN (Below.refl wc.heap.size wc) nq
                        have hV6 := hV5.out.call hb6
                        have hT6 := hT5.out.call0 hb6
                        have hO6 := hO5.out.call hb6
                        have hB6 := hB5.out.call hb6
                        clear hV5 hT5 hO5 hB5 NX f10 e10 v2 hb6
                        generalize wc.drewN nq = y6 at *
                        have f10 : y6.cell? ⟨r, 10, none⟩ = some (.int .i64 tv.st) := hB6.cell 10
                        obtain ⟨⟨p1, p2⟩, -⟩ := hV6.facts hil
                        obtain ⟨bz, hbz⟩ : ∃ b, (tv.st != 4) = b := ⟨_, rfl⟩
                        obtain ⟨hV7, hc7⟩ := hV6.setHad i bz
                        have hT7 := hT6.at1 hc7 (.inl (.inl (.inl rfl))) g1
                        have hO7 := ownE_far hO6 hc7 hvz.1
                        have hB7 := hB6.far1 hc7 hvl.1
                        clear hV6 hT6 hO6 hB6 hc7
                        replace hV7 := Lib.hid hV7
                        replace hT7 := Lib.hid hT7
                        replace hO7 := Lib.hid hO7
                        replace hB7 := Lib.hid hB7
                        go_upto_region 28 with fail
                        generalize y6.setCell ⟨hb, i, none⟩ (.bool bz) = y7 at *
                        clear f10 p1 p2
                        have f10 : y7.cell? ⟨r, 10, none⟩ = some (.int .i64 tv.st) := hB7.out.cell 10
                        obtain ⟨-, -, p3, p4, p5, p6⟩ := hV7.out.facts hil
                        obtain ⟨dv, hdv⟩ : ∃ v, (t : Int) + idleS a0 a1 a2 a3 tv.st = v := ⟨_, rfl⟩
                        have hid := idle40 hr0 hr1 hr2 hr3 tv.st
                        have hwd : wrap64 ((t : Int) + idleS a0 a1 a2 a3 tv.st) = dv := by
                          unfold wrap64
                          omega
                        have FD := Lib.hid fun W (h : Below y7.heap.size y7 W) => ((hV7.out.call h).facts hil).2.1
                        go_upto_region 29 with (go_at_call 21; (with_reducible refine (refidle_any _ _ _ _ _ _).mono ?_); rintro e y8 ⟨rfl, hb8⟩; obtain ⟨p7, p8⟩ := FD.out y8 hb8)
                        have hV8 := hV7.out.call hb8
                        have hT8 := hT7.out.call0 hb8
                        have hO8 := hO7.out.call hb8
                        have hB8 := hB7.out.call hb8
                        obtain ⟨hV9, hc9⟩ := hV8.setDue i dv
                        have hT9 := hT8.at1 hc9 (.inl (.inl (.inr (.inl rfl)))) g2
                        have hO9 := ownE_far hO8 hc9 hvz.2.1
                        have hB9 := hB8.far1 hc9 hvl.2.1
                        clear hV7 hT7 hO7 hB7 hV8 hT8 hO8 hB8 hb8 hc9 FD f10 p3 p4 p5 p6 p7 p8
                        replace hT9 := Lib.hid hT9
                        generalize y8.setCell ⟨db, i, none⟩ (.int .i64 dv) = y9 at *
                        have hEn9 := Lib.hid hV9.en
                        obtain ⟨hVX, hcX⟩ := hV9.setEn hil tv
                        have hTX := (hT9.out.at1 hcX (.inl (.inl (.inr (.inr (.inl rfl))))) g3).mono (K' := fun b => vmK hb db eb rb b ∨ InB A b) (fun b hb => .inl hb)
                        have hOX := ownE_far hO9 hcX hvz.2.2
                        clear hV9 hT9 hO9 hcX
                        replace hB9 := Lib.hid hB9
                        replace hVX := Lib.hid hVX
                        replace hTX := Lib.hid hTX
                        replace hOX := Lib.hid hOX
                        go_wp2_with (first
                          | (refine wpList_load_ent rfl (.tmp 22) rfl r rfl tv hB9.out ?_)
                          | (refine wpList_store_ents rfl (.tmp 205) (.tmp 204) rfl hEn9.out hil tv rfl rfl ?_; generalize y9.setCells eb (i * 14) tv.ent = yz at *))
                        go_meet
                        refine ⟨ts, _, hTX.out, ?_, tk3.out.trans hn, hVX.out, hOX.out, ?_, ?_⟩
                        · rw [← hbz, ← hdv]
                          exact tk4.out
                        · intro j h1 h2 h3
                          have e : j ≠ i := by omega
                          simp only [if_neg e] at h3 ⊢
                          exact (hh2.out j (by omega) h2 h3).trans (tk5.out j h2 e h3).symm
                        · intro j hj
                          by_cases e : j = i
                          · simp only [if_pos e]
                            omega
                          · simp only [if_neg e]
                            exact hd2.out j hj
                  case rest =>
                    obtain ⟨s', D', hT4, hD4, hn4, hV4, hO4, hh4, hd4⟩ := hcut
                    clear hT3 hV3 hO3 hD hheld hdu HE3 v0 v2 v3 hbq hb3 hal hhd hdd hx hbi hdi hn d22
                    obtain ⟨v0, v1, v2, v3⟩ := HV.out wc hT4.below
                    obtain ⟨bo, hbo⟩ : ∃ b, ((t : Int) == va % 41) = b := ⟨_, rfl⟩
                    have htm : va.tmod 41 = va % 41 := Int.tmod_eq_emod_of_nonneg (by have := hva.out; omega)
                    have hwt := u8w hva.out
                    obtain ⟨tu, htu⟩ : ∃ u, visT vu i = u := ⟨_, rfl⟩
                    have hop := visT_ok vu (i := (i : Int)) (by omega)
                    rw [htu] at hop
                    obtain ⟨o1, o2, o3, o4⟩ := hD4.openAll hT4.ti hrr hGr.1 hil hop
                    cases bo
                    · replace hT4 := Lib.hid hT4
                      replace hV4 := Lib.hid hV4
                      replace hO4 := Lib.hid hO4
                      replace hD4 := Lib.hid hD4
                      replace hh4 := Lib.hid hh4
                      replace hd4 := Lib.hid hd4
                      clear o1 o2 o3 o4 hop htu HV v1 v2 v3
                      go_wp2_with fail
                      go_roundg (gk - 1)
                      case measure => omega
                      case rel => exact ⟨i + 1, s', D', by omega, by go_num, hT4.out, hD4.out.weak (by omega), hn4, hV4.out, hO4.out, hh4.out, hd4.out⟩
                    · have VI := Lib.hid fun W => visitor19 W ⟨va, vt, vf, vu⟩ i
                      dsimp only at VI
                      rw [htu] at VI
                      have OP := Lib.hid fun W (h : Below wc.heap.size wc W) => tabn_open (hT4.call0 h) (fun b hb => Nat.lt_of_lt_of_le (hb.elim (hV4.lt b) (fun h => (hO4.block h).2)) h.size) tu i 2
                      obtain ⟨ov, hov⟩ : ∃ v, openV ⟨a0, a1, a2, a3, G⟩ s' tu i 2 = v := ⟨_, rfl⟩
                      obtain ⟨oe, hoe⟩ : ∃ v, openE s' tu i 2 = v := ⟨_, rfl⟩
                      obtain ⟨os, hos⟩ : ∃ v, openS ⟨a0, a1, a2, a3, G⟩ n s' tu i 2 = v := ⟨_, rfl⟩
                      rw [hov, hoe, hos] at OP
                      rw [hos] at o1 o4
                      rw [hov, hoe, hos] at o2 o3
                      rw [hn4] at o1 o3
                      have HX := Lib.hid fun W (h : Below wc.heap.size wc W) W2 (hc : Chg (Nk w (fun b => vmK hb db eb rb b ∨ InB A b)) W W2) => And.intro ((hV4.call h).chg hc (fun b h e => h.2 (.inl e))) (OwnA.chg (hO4.call h) hc (fun b hb e => e.2 (.inr hb)))
                      have hzw : ∀ b, vmK hb db eb rb b → b < wc.heap.size := hV4.lt
                      obtain ⟨g1, g2, g3, g4⟩ := hV4.ge
                      replace hzw := Lib.hid hzw
                      replace o1 := Lib.hid o1
                      replace o2 := Lib.hid o2
                      replace o3 := Lib.hid o3
                      replace o4 := Lib.hid o4
                      replace hh4 := Lib.hid hh4
                      replace hd4 := Lib.hid hd4
                      clear hT4 hV4 hO4 hD4 hop htu hov hoe hos
                      go_upto_region 32 with (first
                        | (go_at_call 22; (with_reducible refine (VI.out _).mono ?_); rintro e y3 ⟨rfl, hb3⟩)
                        | (go_at_call 11; (with_reducible refine (OP.out _ hb3).mono ?_); rintro e y4 ⟨rfl, hT5, hc5⟩))
                      change Code.wp _ _ _ _ (y4.alloc (.cells ov.entA 43))
                      have hba := below_alloc (Below.refl y4.heap.size y4) (.cells ov.entA 43)
                      have hB6 := Blk.new y4 43 ov.entA
                      obtain ⟨hV5, hO5⟩ := HX.out _ hb3 _ hc5
                      have hV6 := hV5.call hba
                      have hO6 := hO5.call hba
                      have hT6 := hT5.alloc (.cells ov.entA 43)
                      have hz3 := hb3.size
                      have hz5 := hc5.size
                      obtain ⟨r, hr5⟩ : ∃ r, y4.heap.size = r := ⟨_, rfl⟩
                      rw [hr5] at hB6 hT6 hz5
                      try rw [hr5]
                      generalize y4.alloc (.cells ov.entA 43) = y5 at *
                      have hvl : hb < r ∧ db < r ∧ eb < r := by
                        have := hzw.out hb (.inl rfl)
                        have := hzw.out db (.inr (.inl rfl))
                        have := hzw.out eb (.inr (.inr (.inl rfl)))
                        omega
                      have hvz : hb < z1 ∧ db < z1 ∧ eb < z1 := ⟨hVl.out hb (.inl rfl), hVl.out db (.inr (.inl rfl)), hVl.out eb (.inr (.inr (.inl rfl)))⟩
                      clear hV5 hO5 hT5 hc5 hb3 hba HX OP VI v0 v1 v2 v3 hbo hz3 hz5 hzw hr5
                      replace hV6 := Lib.hid hV6
                      replace hT6 := Lib.hid hT6
                      replace hO6 := Lib.hid hO6
                      replace hB6 := Lib.hid hB6
                      go_cut [247] from 227 to 247 (fun x247 wx => x247 = .bool false ∧ wx = y5)
                      case first =>
                        as_aux_lemma =>
                        rcases o2.out with ⟨rfl, hbk⟩ | ⟨rfl, hL0⟩
                        · have f9 : y5.cell? ⟨r, 9, none⟩ = some (.int .i64 (i : Int)) := by rw [← hbk]; exact hB6.out.cell 9
                          have hne : ((i : Int) != (i : Int)) = false := by simp
                          clear hbk
                          go_wp2_with fail
                          go_meet
                          exact ⟨rfl, rfl⟩
                        · have FR := tabn_free hT6.out
                          rw [hL0] at FR
                          replace FR := Lib.hid FR
                          go_wp2_with (go_at_call 17; (with_reducible refine FR.out.mono ?_); rintro e y6 ⟨rfl, rfl⟩)
                          go_meet
                          exact ⟨rfl, rfl⟩
                      case rest =>
                       as_aux_lemma =>
                        obtain ⟨rfl, rfl⟩ := hcut
                        obtain ⟨⟨p1, p2⟩, -⟩ := hV6.out.facts hil
                        obtain ⟨bz, hbz⟩ : ∃ b, (oe == 0) = b := ⟨_, rfl⟩
                        obtain ⟨hV7, hc7⟩ := hV6.out.setHad i bz
                        have hT7 := hT6.out.at1 hc7 (.inl (.inl (.inl rfl))) g1
                        have hO7 := ownE_far hO6.out hc7 hvz.1
                        have hB7 := hB6.out.far1 hc7 hvl.1
                        clear hV6 hT6 hO6 hB6 hc7 o2
                        replace hV7 := Lib.hid hV7
                        replace hT7 := Lib.hid hT7
                        replace hO7 := Lib.hid hO7
                        replace hB7 := Lib.hid hB7
                        go_upto_region 35 with fail
                        generalize wc.setCell ⟨hb, i, none⟩ (.bool bz) = y7 at *
                        clear p1 p2
                        have f10 : y7.cell? ⟨r, 10, none⟩ = some (.int .i64 ov.st) := hB7.out.cell 10
                        obtain ⟨-, -, p3, p4, p5, p6⟩ := hV7.out.facts hil
                        obtain ⟨dv, hdv⟩ : ∃ v, (t : Int) + idleS a0 a1 a2 a3 ov.st = v := ⟨_, rfl⟩
                        have hid := idle40 hr0 hr1 hr2 hr3 ov.st
                        have hwd : wrap64 ((t : Int) + idleS a0 a1 a2 a3 ov.st) = dv := by
                          unfold wrap64
                          omega
                        have FD := Lib.hid fun W (h : Below y7.heap.size y7 W) => ((hV7.out.call h).facts hil).2.1
                        go_upto_region 36 with (go_at_call 21; (with_reducible refine (refidle_any _ _ _ _ _ _).mono ?_); rintro e y8 ⟨rfl, hb8⟩; obtain ⟨p7, p8⟩ := FD.out y8 hb8)
                        have hV8 := hV7.out.call hb8
                        have hT8 := hT7.out.call0 hb8
                        have hO8 := hO7.out.call hb8
                        have hB8 := hB7.out.call hb8
                        obtain ⟨hV9, hc9⟩ := hV8.setDue i dv
                        have hT9 := hT8.at1 hc9 (.inl (.inl (.inr (.inl rfl)))) g2
                        have hO9 := ownE_far hO8 hc9 hvz.2.1
                        have hB9 := hB8.far1 hc9 hvl.2.1
                        clear hV7 hT7 hO7 hB7 hV8 hT8 hO8 hB8 hb8 hc9 FD f10 p3 p4 p5 p6 p7 p8
                        generalize y8.setCell ⟨db, i, none⟩ (.int .i64 dv) = y9 at *
                        have hEn9 := Lib.hid hV9.en
                        obtain ⟨hVX, hcX⟩ := hV9.setEn hil ov
                        have hTX := (hT9.at1 hcX (.inl (.inl (.inr (.inr (.inl rfl))))) g3).mono (K' := fun b => vmK hb db eb rb b ∨ InB A b) (fun b hb => .inl hb)
                        have hOX := ownE_far hO9 hcX hvz.2.2
                        have hfin : ∃ (s : TSt) (D : DSt), TabN w (y9.setCells eb (i * 14) ov.ent) g sb n ⟨a0, a1, a2, a3, G⟩ s (fun b => vmK hb db eb rb b ∨ InB A b) ∧ DI n G l.length (30 * (t : Int) + 1 + 2 * (i : Int) + 1 + 1) s D ∧ s.now = t ∧ VM w.heap.size (y9.setCells eb (i * 14) ov.ent) hb db eb rb l.length ⟨a0, a1, a2, a3, G⟩ D ∧ OwnE (y9.setCells eb (i * 14) ov.ent) z1 A q LL ∧ (∀ j, i + 1 ≤ j → j < l.length → D.had j = true → (heldB LL (D.en j) = true ↔ alive s (D.en j))) ∧ ∀ i, i < l.length → 0 ≤ D.due i ∧ D.due i ≤ 2000 := by
                          refine ⟨os, _, hTX, ?_, o1.out, hVX, hOX, ?_, ?_⟩
                          · rw [← hbz, ← hdv]
                            exact o3.out
                          · intro j h1 h2 h3
                            have e : j ≠ i := by omega
                            simp only [if_neg e] at h3 ⊢
                            exact (hh4.out j (by omega) h2 h3).trans (o4.out j h2 e h3).symm
                          · intro j hj
                            by_cases e : j = i
                            · simp only [if_pos e]
                              omega
                            · simp only [if_neg e]
                              exact hd4.out j hj
                        clear hV9 hT9 hO9 hcX hVX hTX hOX o1 o3 o4 hh4 hd4 hdv hid hwd hbz hvl hvz g1 g2 g3 g4 hrr hr0 hr1 hr2 hr3 HV hva hvt hv
                        replace hfin := Lib.hid hfin
                        replace hB9 := Lib.hid hB9
                        go_wp2_with (first
                          | (refine wpList_load_ent rfl (.tmp 24) rfl r rfl ov hB9.out ?_)
                          | (refine wpList_store_ents rfl (.tmp 265) (.tmp 264) rfl hEn9.out hil ov rfl rfl ?_; generalize y9.setCells eb (i * 14) ov.ent = yz at *))
                        go_roundg (gk - 1)
                        case measure => omega
                        case rel =>
                          obtain ⟨s6, D6, k1, k2, k3, k4, k5, k6, k7⟩ := hfin.out
                          exact ⟨i + 1, s6, D6, by omega, by go_num, k1, k2.weak (by omega), k3, k4, k5, k6, k7⟩
          · obtain rfl : i = l.length := by omega
            have hili : ¬ (l.length : Int) < (l.length : Int) := by omega
            have hT3 := hT.mono (K' := vmK hb db eb rb) (fun b hb => .inl hb)
            replace hT := Lib.hid hT3
            replace hV := Lib.hid hV
            replace hD := Lib.hid hD
            replace hdu := Lib.hid hdu
            clear hT3 hO hheld
            go_wp2_with fail
            go_roundg (go_ - 1)
            case measure => omega
            case rel => exact ⟨t + 1, s, D, by omega, by go_num, hT.out, hD.out.weak (by omega), by omega, hV.out, hdu.out⟩
      · obtain rfl : t = 141 := by omega
        have hlti : ¬ ((141 : Nat) : Int) ≤ 140 := by omega
        have hbF := hT.below
        clear hT hV hD hdu
        go_wp2_with (go_at_call 6; (with_reducible refine (awake19 _).mono ?_); rintro e v15 ⟨rfl, hb15⟩)
        go_ret
        exact ⟨rfl, below_chain hb15 hbF⟩
end Go.Proofs.Ytmkknjhalcocmaa

namespace Go.Proofs.Ytmkknjhalcocmaa
open Go Go.RowKit Go.Deep Go.ChangeShapes Go.WideShapes

@[reducible] def visFT : FT := .pair (.int .u8) (.pair (.int .u8) (.pair (.int .i64) (.pair .bool .unit)))
def visOf (x : visFT.Val) : Vis := ⟨x.1, x.2.1, x.2.2.1, x.2.2.2.1⟩
theorem vis_cells (w : World) (x : visFT.Val) (es : List Value) (h : Rep w visFT x es) : es = (visOf x).cells ∧ visW (visOf x) := by
  obtain ⟨x0, x1, x2, x3, ⟨⟩⟩ := x
  obtain ⟨_, _, rfl, ⟨rfl, k0⟩, _, _, rfl, ⟨rfl, k1⟩, _, _, rfl, ⟨rfl, _⟩, _, _, rfl, rfl, rfl⟩ := h
  refine ⟨rfl, ?_⟩
  simp [Lit.wf, IntKind.min, IntKind.max, IntKind.bits, IntKind.signed] at k0 k1
  exact ⟨k0, k1⟩
section
variable {H : Type} {enc : TypeId × Value → H}
set_option maxRecDepth 100000 in
theorem open_visits {r : Reach} {b0 : Nat} {w : World} {v : Value} {d : DataW H} {p : List MemPlace} (hv : Value.okWide Try.prog w r b0 57 v)
    (h : DataW.Trod enc Try.prog w 0 (fun _ => true) true 57 v d p) :
    ∃ (A : Option Addr) (c : Nat) (l : List Vis), v = .slice A l.length c ∧ Reads w w.heap.size 4 A l.length (l.flatMap Vis.cells) ∧ (∀ v ∈ l, visW v) ∧ l.length ≤ 9223372036854775807 := by
  obtain ⟨a0, len, cap, rfl⟩ := okWide_slice Try.underlying57 hv
  obtain ⟨xs, hx⟩ := open_ft24 (.slice visFT) (by kernel_rfl) h
  have hall : ∀ v ∈ xs.map visOf, visW v := by
    intro v hv
    obtain ⟨x, hx', rfl⟩ := List.mem_map.1 hv
    obtain ⟨A, c, _, _, hr⟩ := hx
    obtain ⟨i, hi, rfl⟩ := List.getElem_of_mem hx'
    obtain ⟨_, _, _, hc⟩ := hr (by omega)
    obtain ⟨es, he, _⟩ := hc i _ (List.getElem?_eq_getElem hi)
    exact (vis_cells w _ _ he).2
  obtain ⟨A, c, hcs, hrd, hl⟩ := Rep.reads visOf Vis.cells (fun _ => rfl) (by decide) (fun x es h => (vis_cells w x es h).1) hx
  unfold maxLen at *
  simp only [Value.cells, List.cons.injEq, Value.slice.injEq, and_true] at hcs
  obtain ⟨rfl, rfl, rfl⟩ := hcs
  exact ⟨_, _, _, rfl, hrd, hall, hl⟩
end
end Go.Proofs.Ytmkknjhalcocmaa
