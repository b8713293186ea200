/- shift: the law ShiftMust, called. -/
import Derived.Test.YtkpkjpdhlmjchaaShiftM
import Derived.Test.YtkpkjpdhlmjchaaShiftAw
namespace Go.Proofs.Ytkpkjpdhlmjchaa
open Go Go.RowKit Go.Deep

set_option maxRecDepth 100000 in
set_option maxHeartbeats 16000000 in
theorem shiftMust_false (l : List Bk) (A : Option Addr) (c : Nat) (ka kb : Int) (a : Nat) (w : World) (hr : Reads w w.heap.size 6 A l.length (l.flatMap Bk.cells)) (hl : l.length ≤ 9223372036854775807) (ha : a < 256) :
    Calls Try.prog 4 #[.slice A l.length c, .agg #[.int .u64 ka, .int .u64 kb], .bool false, .int .u8 (a : Int)] w fun e w' => e = .returned (.bool true) ∧ Below w.heap.size w w' := by
  obtain ⟨w0, hw0⟩ : ∃ w0, w0 = w.alloc (.cells #[.int .u64 ka, .int .u64 kb] 25) := ⟨_, rfl⟩
  have hb0 : Below w.heap.size w w0 := hw0 ▸ below_alloc (Below.refl _ _) _
  have hr0 : Reads w0 w0.heap.size 6 A l.length (l.flatMap Bk.cells) := (hr.below hb0).more hb0.size
  have R1 := Lib.hid (ref24_right l A c _ hr0 hl)
  have K0 : Blk w0 w.heap.size 25 #[.int .u64 ka, .int .u64 kb] := hw0 ▸ Blk.new w _ _
  have AW := awake46
  replace AW := Lib.hid AW
  by_cases h13 : 13 < l.length
  · have e13 : decide ((13 : Int) < (l.length : Int)) = true := by simp; omega
    clear R1 hr0 K0
    go_enter Try.func4, Try.ntmps4
    go_wp2_with fail
    rw [← hw0]
    clear hw0
    refine (AW.out _).mono ?_
    rintro e w1 ⟨rfl, hb1⟩
    go_wp2_with fail
    go_ret
    exact ⟨rfl, below_chain hb1 hb0⟩
  have e13 : decide ((13 : Int) < (l.length : Int)) = false := by simp; omega
  by_cases h2 : l.length < 2
  · have e2 : decide ((l.length : Int) < 2) = true := by simp; omega
    have e2' : (l.length : Int) < 2 := by omega
    clear R1 hr0 K0
    go_enter Try.func4, Try.ntmps4
    go_wp2_with fail
    rw [← hw0]
    clear hw0
    refine (AW.out _).mono ?_
    rintro e w1 ⟨rfl, hb1⟩
    go_wp2_with fail
    go_ret
    exact ⟨rfl, below_chain hb1 hb0⟩
  have e2 : decide ((l.length : Int) < 2) = false := by simp; omega
  have hk : a % l.length < l.length := Nat.mod_lt _ (by omega)
  obtain ⟨k, hka⟩ : ∃ k, a % l.length = k := ⟨_, rfl⟩
  rw [hka] at hk
  have hr1 : ((a : Int) % (l.length : Int)) = (k : Int) := by rw [← hka]; simp
  have hr2 : Int.tmod (a : Int) (l.length : Int) = (k : Int) := by rw [Int.tmod_eq_emod_of_nonneg (by omega)]; exact hr1
  have hlaw := fun (h : bkRight l) (b : Bk) (hb : l[k]? = some b) => shMust_law (ka := ka) (kb := kb) (m := 13) (.inl rfl) h (by omega) (by omega) hb
  have HOk : bkRight l → ShOk 13 l l := fun h => ⟨fun _ => .inl rfl, h.1, h.1, bkRight_ids h, bkRight_ids h⟩
  have hn0 : ((l.length : Int) == 0) = false := by rw [beq_eq_false_iff_ne]; omega
  rw [show ((13 : Nat) : Int) = 13 from rfl] at hlaw
  replace hka := Lib.hid hka
  replace hlaw := Lib.hid hlaw
  go_enter Try.func4, Try.ntmps4
  go_wp2_with fail
  rw [← hw0]
  clear hw0
  refine R1.out.mono ?_
  rintro e w00 ⟨r, n0', rfl, rfl, hR⟩
  have hrd : Reads (w0.drewN n0') (w0.drewN n0').heap.size 6 A l.length (l.flatMap Bk.cells) := hr0
  have K1 : Blk (w0.drewN n0') w.heap.size 25 #[.int .u64 ka, .int .u64 kb] := K0
  have hb1 : Below w.heap.size w (w0.drewN n0') := below_drewN hb0 n0'
  generalize w0.drewN n0' = w1 at *
  clear R1 hr0 K0 hb0
  cases r
  · clear hR hlaw
    go_wp2_with (go_at_call 12; (with_reducible refine (AW.out _).mono ?_); rintro e w2 ⟨rfl, hb2⟩)
    go_ret
    exact ⟨rfl, below_chain hb2 hb1⟩
  have hL := hR (by trivial)
  clear hR
  obtain ⟨ad, b, rfl, hbl, hbx, c0, -⟩ := bk_at hrd hk
  obtain ⟨f1, f2, f3, MV, MU, f4, f5, f6, f7, f8⟩ := hlaw.out hL b hbx
  have hOk := HOk hL
  have OF := fun W (hb : Below w.heap.size w W) => shiftof_any 0 0 l _ c l _ c ka kb _ W ((hr.below hb).more hb.size) ((hr.below hb).more hb.size) hOk
  have DF := fun W (hb : Below w.heap.size w W) => drain_any 0 l _ c b.id ka kb _ W ((hr.below hb).more hb.size) hOk
  rw [f1, f2] at OF
  rw [f3, f4] at DF
  obtain ⟨D, hD⟩ : ∃ D, MV - MU = D := ⟨_, rfl⟩
  rw [hD] at DF
  have hsum : (MU : Int) + (D : Int) = (MV : Int) := by omega
  have hlow : (13 : Int) / (l.length : Int) ≤ (MU : Int) := by
    have e : (13 : Int) / (l.length : Int) = ((13 / l.length : Nat) : Int) := by rw [Int.natCast_ediv]; rfl
    rw [e]; omega
  have hhigh : (MU : Int) ≤ ((13 : Int) + (l.length : Int) - 1) / (l.length : Int) := by
    have e : ((13 : Int) + (l.length : Int) - 1) / (l.length : Int) = (((13 + (l.length - 1)) / l.length : Nat) : Int) := by
      rw [Int.natCast_ediv]; congr 1; omega
    rw [e]; omega
  have SH := fun W => share_any 13 (MV : Int) (MU : Int) (D : Int) W (by omega) (by omega)
  obtain ⟨sv, hsv⟩ : ∃ sv, shareI 13 (MV : Int) = sv := ⟨_, rfl⟩
  have hs1 : sv ≤ 1000 := by rw [← hsv]; unfold shareI; rw [if_neg (by omega)]; omega
  rw [hsv] at SH
  dsimp only [Mv.arr] at OF DF
  obtain ⟨bi, bw, bs, bv, bh, bo⟩ := b
  dsimp only at *
  obtain ⟨L, hL2⟩ : ∃ L : Int, (13 : Int) / (l.length : Int) = L := ⟨_, rfl⟩
  obtain ⟨H, hH2⟩ : ∃ H : Int, ((13 : Int) + (l.length : Int) - 1) / (l.length : Int) = H := ⟨_, rfl⟩
  rw [hL2] at hlow
  rw [hH2] at hhigh
  have hL3 : Int.tdiv (13 : Int) (l.length : Int) = L := by rw [Int.tdiv_eq_ediv_of_nonneg (by omega)]; exact hL2
  have hH3 : Int.tdiv ((13 : Int) + (l.length : Int) - 1) (l.length : Int) = H := by rw [Int.tdiv_eq_ediv_of_nonneg (by omega)]; exact hH2
  have g1 : IntKind.i64.wrap ((13 : Int) + (l.length : Int)) = (13 : Int) + (l.length : Int) := i64_id _ (by omega)
  have g2 : IntKind.i64.wrap ((13 : Int) + (l.length : Int) - 1) = (13 : Int) + (l.length : Int) - 1 := i64_id _ (by omega)
  have hLr : 0 ≤ L ∧ L ≤ 13 := by rw [← hL2]; exact ⟨Int.ediv_nonneg (by omega) (by omega), Int.ediv_le_self _ (by omega)⟩
  have hHr : 0 ≤ H ∧ H ≤ 300 := by rw [← hH2]; exact ⟨Int.ediv_nonneg (by omega) (by omega), Int.le_trans (Int.ediv_le_self _ (by omega)) (by omega)⟩
  have g3 : IntKind.i64.wrap L = L := i64_id _ (by omega)
  have g4 : IntKind.i64.wrap H = H := i64_id _ (by omega)
  have b1 : decide (L ≤ (MU : Int)) = true := by simpa using hlow
  have b2 : decide ((MU : Int) ≤ H) = true := by simpa using hhigh
  have b3 : decide ((MV : Int) ≤ 13) = true := by simp; omega
  have b4 : decide ((0 : Int) ≤ (D : Int)) = true := by simp
  have b5 : decide (sv ≤ 1000) = true := by simpa using hs1
  have b6 : ((MV : Int) == (MV : Int)) = true := by simp
  replace OF := Lib.hid OF
  replace DF := Lib.hid DF
  replace SH := Lib.hid SH
  replace hbx := Lib.hid hbx
  replace hD := Lib.hid hD
  replace hsv := Lib.hid hsv
  have HS := Lib.hid hsum
  clear hL hOk f1 f2 f3 f4 hlaw HOk hr hrd hl h13 f5 f6 hLr hHr hsum
  replace hL2 := Lib.hid hL2
  replace hH2 := Lib.hid hH2
  replace hL3 := Lib.hid hL3
  replace hH3 := Lib.hid hH3
  replace g1 := Lib.hid g1
  replace g2 := Lib.hid g2
  replace g3 := Lib.hid g3
  replace g4 := Lib.hid g4
  go_upto_region 8 with (fail)
  have K2 := K1.alloc (.cells #[.int .i64 0, .slice (some ad) l.length c] 36)
  have S2 := Blk.new w1 36 #[.int .i64 0, .slice (some ad) l.length c]
  have hb2 := below_alloc hb1 (.cells #[.int .i64 0, .slice (some ad) l.length c] 36)
  clear K1 hb1 c0 hbl
  generalize w1.alloc (.cells #[.int .i64 0, .slice (some ad) l.length c] 36) = w2 at *
  generalize w1.heap.size = gs at *
  have k0 := K2.cell 0
  have k1 := K2.cell 1
  have s0 := S2.cell 0
  have s1 := S2.cell 1
  simp only [List.getElem?_toArray, List.getElem?_cons_zero, List.getElem?_cons_succ] at k0 k1 s0 s1
  go_wp2_with fail
  refine (OF.out _ hb2).mono ?_
  rintro e w3 ⟨rfl, hb3⟩
  go_upto_region 9 with (fail)
  have X4 := Blk.new w3 31 (mvArr 13 0 0 0)
  have K4 := (K2.call hb3).alloc (.cells (mvArr 13 0 0 0) 31)
  have S4 := (S2.call hb3).alloc (.cells (mvArr 13 0 0 0) 31)
  have hb4 := below_alloc (below_chain hb3 hb2) (.cells (mvArr 13 0 0 0) 31)
  clear hb3 K2 S2 k0 k1 s0 s1 hb2 OF
  generalize w3.alloc (.cells (mvArr 13 0 0 0) 31) = w4 at *
  generalize w3.heap.size = g5 at *
  have k0 := K4.cell 0
  have k1 := K4.cell 1
  have s0 := S4.cell 0
  have s1 := S4.cell 1
  simp only [List.getElem?_toArray, List.getElem?_cons_zero, List.getElem?_cons_succ] at k0 k1 s0 s1
  go_wp2_with fail
  refine (DF.out _ hb4).mono ?_
  rintro e w5 ⟨rfl, hb5⟩
  go_upto_region 10 with (fail)
  have X6 := (X4.call hb5).alloc (.cells (mvArr 13 (MV : Int) (MU : Int) (D : Int)) 31)
  have Y6 := Blk.new w5 31 (mvArr 13 (MV : Int) (MU : Int) (D : Int))
  have hb6 := below_alloc (below_chain hb5 hb4) (.cells (mvArr 13 (MV : Int) (MU : Int) (D : Int)) 31)
  clear hb5 K4 S4 X4 k0 k1 s0 s1 hb4 DF
  generalize w5.alloc (.cells (mvArr 13 (MV : Int) (MU : Int) (D : Int)) 31) = w6 at *
  generalize w5.heap.size = g6 at *
  obtain ⟨⟨x0, x1, x2, x3⟩, -⟩ := X6.four
  clear X6
  go_wp2_with fail
  clear x0 x1 x2 x3
  have j1 := g1.out
  have j2 := g2.out
  have j5 := hL3.out
  have j6 := hH3.out
  have j7 := hL2.out
  have j8 := hH2.out
  have j9 := g3.out
  have j10 := g4.out
  go_quiet (fail)
  have Y7 : Blk (w6.drewN nq) g6 31 (mvArr 13 (MV : Int) (MU : Int) (D : Int)) := Y6
  have hb7 := below_drewN hb6 nq
  generalize w6.drewN nq = w7 at *
  clear Y6 hb6 j1 j2 j5 j6 j7 j8 j9 j10
  obtain ⟨⟨y0, y1, y2, y3⟩, -⟩ := Y7.four
  have hsum := HS.out
  go_wp2_with fail
  refine (SH.out _).mono ?_
  rintro e w8 ⟨rfl, hb8⟩
  have hb9 := below_chain hb8 hb7
  clear hb8 hb7 Y7 y0 y1 y2 y3
  go_wp2_with fail
  refine (AW.out _).mono ?_
  rintro e w9 ⟨rfl, hb10⟩
  go_wp2_with fail
  go_ret
  exact ⟨rfl, below_chain hb10 hb9⟩

set_option maxRecDepth 100000 in
set_option maxHeartbeats 16000000 in
theorem shiftMust_true (l : List Bk) (A : Option Addr) (c : Nat) (ka kb : Int) (a : Nat) (w : World) (hr : Reads w w.heap.size 6 A l.length (l.flatMap Bk.cells)) (hl : l.length ≤ 9223372036854775807) (ha : a < 256) :
    Calls Try.prog 4 #[.slice A l.length c, .agg #[.int .u64 ka, .int .u64 kb], .bool true, .int .u8 (a : Int)] w fun e w' => e = .returned (.bool true) ∧ Below w.heap.size w w' := by
  obtain ⟨w0, hw0⟩ : ∃ w0, w0 = w.alloc (.cells #[.int .u64 ka, .int .u64 kb] 25) := ⟨_, rfl⟩
  have hb0 : Below w.heap.size w w0 := hw0 ▸ below_alloc (Below.refl _ _) _
  have hr0 : Reads w0 w0.heap.size 6 A l.length (l.flatMap Bk.cells) := (hr.below hb0).more hb0.size
  have R1 := Lib.hid (ref24_right l A c _ hr0 hl)
  have K0 : Blk w0 w.heap.size 25 #[.int .u64 ka, .int .u64 kb] := hw0 ▸ Blk.new w _ _
  have AW := awake46
  replace AW := Lib.hid AW
  by_cases h13 : 13 < l.length
  · have e13 : decide ((13 : Int) < (l.length : Int)) = true := by simp; omega
    clear R1 hr0 K0
    go_enter Try.func4, Try.ntmps4
    go_wp2_with fail
    rw [← hw0]
    clear hw0
    refine (AW.out _).mono ?_
    rintro e w1 ⟨rfl, hb1⟩
    go_wp2_with fail
    go_ret
    exact ⟨rfl, below_chain hb1 hb0⟩
  have e13 : decide ((13 : Int) < (l.length : Int)) = false := by simp; omega
  by_cases h2 : l.length < 2
  · have e2 : decide ((l.length : Int) < 2) = true := by simp; omega
    have e2' : (l.length : Int) < 2 := by omega
    clear R1 hr0 K0
    go_enter Try.func4, Try.ntmps4
    go_wp2_with fail
    rw [← hw0]
    clear hw0
    refine (AW.out _).mono ?_
    rintro e w1 ⟨rfl, hb1⟩
    go_wp2_with fail
    go_ret
    exact ⟨rfl, below_chain hb1 hb0⟩
  have e2 : decide ((l.length : Int) < 2) = false := by simp; omega
  have hk : a % l.length < l.length := Nat.mod_lt _ (by omega)
  obtain ⟨k, hka⟩ : ∃ k, a % l.length = k := ⟨_, rfl⟩
  rw [hka] at hk
  have hr1 : ((a : Int) % (l.length : Int)) = (k : Int) := by rw [← hka]; simp
  have hr2 : Int.tmod (a : Int) (l.length : Int) = (k : Int) := by rw [Int.tmod_eq_emod_of_nonneg (by omega)]; exact hr1
  have hlaw := fun (h : bkRight l) (b : Bk) (hb : l[k]? = some b) => shMust_law (ka := ka) (kb := kb) (m := 251) (.inr rfl) h (by omega) (by omega) hb
  have HOk : bkRight l → ShOk 251 l l := fun h => ⟨fun _ => .inr rfl, h.1, h.1, bkRight_ids h, bkRight_ids h⟩
  have hn0 : ((l.length : Int) == 0) = false := by rw [beq_eq_false_iff_ne]; omega
  rw [show ((251 : Nat) : Int) = 251 from rfl] at hlaw
  replace hka := Lib.hid hka
  replace hlaw := Lib.hid hlaw
  go_enter Try.func4, Try.ntmps4
  go_wp2_with fail
  rw [← hw0]
  clear hw0
  refine R1.out.mono ?_
  rintro e w00 ⟨r, n0', rfl, rfl, hR⟩
  have hrd : Reads (w0.drewN n0') (w0.drewN n0').heap.size 6 A l.length (l.flatMap Bk.cells) := hr0
  have K1 : Blk (w0.drewN n0') w.heap.size 25 #[.int .u64 ka, .int .u64 kb] := K0
  have hb1 : Below w.heap.size w (w0.drewN n0') := below_drewN hb0 n0'
  generalize w0.drewN n0' = w1 at *
  clear R1 hr0 K0 hb0
  cases r
  · clear hR hlaw
    go_wp2_with (go_at_call 12; (with_reducible refine (AW.out _).mono ?_); rintro e w2 ⟨rfl, hb2⟩)
    go_ret
    exact ⟨rfl, below_chain hb2 hb1⟩
  have hL := hR (by trivial)
  clear hR
  obtain ⟨ad, b, rfl, hbl, hbx, c0, -⟩ := bk_at hrd hk
  obtain ⟨f1, f2, f3, MV, MU, f4, f5, f6, f7, f8⟩ := hlaw.out hL b hbx
  have hOk := HOk hL
  have OF := fun W (hb : Below w.heap.size w W) => shiftof_any 0 0 l _ c l _ c ka kb _ W ((hr.below hb).more hb.size) ((hr.below hb).more hb.size) hOk
  have DF := fun W (hb : Below w.heap.size w W) => drain_any 0 l _ c b.id ka kb _ W ((hr.below hb).more hb.size) hOk
  rw [f1, f2] at OF
  rw [f3, f4] at DF
  obtain ⟨D, hD⟩ : ∃ D, MV - MU = D := ⟨_, rfl⟩
  rw [hD] at DF
  have hsum : (MU : Int) + (D : Int) = (MV : Int) := by omega
  have hlow : (251 : Int) / (l.length : Int) ≤ (MU : Int) := by
    have e : (251 : Int) / (l.length : Int) = ((251 / l.length : Nat) : Int) := by rw [Int.natCast_ediv]; rfl
    rw [e]; omega
  have hhigh : (MU : Int) ≤ ((251 : Int) + (l.length : Int) - 1) / (l.length : Int) := by
    have e : ((251 : Int) + (l.length : Int) - 1) / (l.length : Int) = (((251 + (l.length - 1)) / l.length : Nat) : Int) := by
      rw [Int.natCast_ediv]; congr 1; omega
    rw [e]; omega
  have SH := fun W => share_any 251 (MV : Int) (MU : Int) (D : Int) W (by omega) (by omega)
  obtain ⟨sv, hsv⟩ : ∃ sv, shareI 251 (MV : Int) = sv := ⟨_, rfl⟩
  have hs1 : sv ≤ 1000 := by rw [← hsv]; unfold shareI; rw [if_neg (by omega)]; omega
  rw [hsv] at SH
  dsimp only [Mv.arr] at OF DF
  obtain ⟨bi, bw, bs, bv, bh, bo⟩ := b
  dsimp only at *
  obtain ⟨L, hL2⟩ : ∃ L : Int, (251 : Int) / (l.length : Int) = L := ⟨_, rfl⟩
  obtain ⟨H, hH2⟩ : ∃ H : Int, ((251 : Int) + (l.length : Int) - 1) / (l.length : Int) = H := ⟨_, rfl⟩
  rw [hL2] at hlow
  rw [hH2] at hhigh
  have hL3 : Int.tdiv (251 : Int) (l.length : Int) = L := by rw [Int.tdiv_eq_ediv_of_nonneg (by omega)]; exact hL2
  have hH3 : Int.tdiv ((251 : Int) + (l.length : Int) - 1) (l.length : Int) = H := by rw [Int.tdiv_eq_ediv_of_nonneg (by omega)]; exact hH2
  have g1 : IntKind.i64.wrap ((251 : Int) + (l.length : Int)) = (251 : Int) + (l.length : Int) := i64_id _ (by omega)
  have g2 : IntKind.i64.wrap ((251 : Int) + (l.length : Int) - 1) = (251 : Int) + (l.length : Int) - 1 := i64_id _ (by omega)
  have hLr : 0 ≤ L ∧ L ≤ 251 := by rw [← hL2]; exact ⟨Int.ediv_nonneg (by omega) (by omega), Int.ediv_le_self _ (by omega)⟩
  have hHr : 0 ≤ H ∧ H ≤ 300 := by rw [← hH2]; exact ⟨Int.ediv_nonneg (by omega) (by omega), Int.le_trans (Int.ediv_le_self _ (by omega)) (by omega)⟩
  have g3 : IntKind.i64.wrap L = L := i64_id _ (by omega)
  have g4 : IntKind.i64.wrap H = H := i64_id _ (by omega)
  have b1 : decide (L ≤ (MU : Int)) = true := by simpa using hlow
  have b2 : decide ((MU : Int) ≤ H) = true := by simpa using hhigh
  have b3 : decide ((MV : Int) ≤ 251) = true := by simp; omega
  have b4 : decide ((0 : Int) ≤ (D : Int)) = true := by simp
  have b5 : decide (sv ≤ 1000) = true := by simpa using hs1
  have b6 : ((MV : Int) == (MV : Int)) = true := by simp
  replace OF := Lib.hid OF
  replace DF := Lib.hid DF
  replace SH := Lib.hid SH
  replace hbx := Lib.hid hbx
  replace hD := Lib.hid hD
  replace hsv := Lib.hid hsv
  have HS := Lib.hid hsum
  clear hL hOk f1 f2 f3 f4 hlaw HOk hr hrd hl h13 f5 f6 hLr hHr hsum
  replace hL2 := Lib.hid hL2
  replace hH2 := Lib.hid hH2
  replace hL3 := Lib.hid hL3
  replace hH3 := Lib.hid hH3
  replace g1 := Lib.hid g1
  replace g2 := Lib.hid g2
  replace g3 := Lib.hid g3
  replace g4 := Lib.hid g4
  go_upto_region 8 with (fail)
  have K2 := K1.alloc (.cells #[.int .i64 0, .slice (some ad) l.length c] 36)
  have S2 := Blk.new w1 36 #[.int .i64 0, .slice (some ad) l.length c]
  have hb2 := below_alloc hb1 (.cells #[.int .i64 0, .slice (some ad) l.length c] 36)
  clear K1 hb1 c0 hbl
  generalize w1.alloc (.cells #[.int .i64 0, .slice (some ad) l.length c] 36) = w2 at *
  generalize w1.heap.size = gs at *
  have k0 := K2.cell 0
  have k1 := K2.cell 1
  have s0 := S2.cell 0
  have s1 := S2.cell 1
  simp only [List.getElem?_toArray, List.getElem?_cons_zero, List.getElem?_cons_succ] at k0 k1 s0 s1
  go_wp2_with fail
  refine (OF.out _ hb2).mono ?_
  rintro e w3 ⟨rfl, hb3⟩
  go_upto_region 9 with (fail)
  have X4 := Blk.new w3 31 (mvArr 251 0 0 0)
  have K4 := (K2.call hb3).alloc (.cells (mvArr 251 0 0 0) 31)
  have S4 := (S2.call hb3).alloc (.cells (mvArr 251 0 0 0) 31)
  have hb4 := below_alloc (below_chain hb3 hb2) (.cells (mvArr 251 0 0 0) 31)
  clear hb3 K2 S2 k0 k1 s0 s1 hb2 OF
  generalize w3.alloc (.cells (mvArr 251 0 0 0) 31) = w4 at *
  generalize w3.heap.size = g5 at *
  have k0 := K4.cell 0
  have k1 := K4.cell 1
  have s0 := S4.cell 0
  have s1 := S4.cell 1
  simp only [List.getElem?_toArray, List.getElem?_cons_zero, List.getElem?_cons_succ] at k0 k1 s0 s1
  go_wp2_with fail
  refine (DF.out _ hb4).mono ?_
  rintro e w5 ⟨rfl, hb5⟩
  go_upto_region 10 with (fail)
  have X6 := (X4.call hb5).alloc (.cells (mvArr 251 (MV : Int) (MU : Int) (D : Int)) 31)
  have Y6 := Blk.new w5 31 (mvArr 251 (MV : Int) (MU : Int) (D : Int))
  have hb6 := below_alloc (below_chain hb5 hb4) (.cells (mvArr 251 (MV : Int) (MU : Int) (D : Int)) 31)
  clear hb5 K4 S4 X4 k0 k1 s0 s1 hb4 DF
  generalize w5.alloc (.cells (mvArr 251 (MV : Int) (MU : Int) (D : Int)) 31) = w6 at *
  generalize w5.heap.size = g6 at *
  obtain ⟨⟨x0, x1, x2, x3⟩, -⟩ := X6.four
  clear X6
  go_wp2_with fail
  clear x0 x1 x2 x3
  have j1 := g1.out
  have j2 := g2.out
  have j5 := hL3.out
  have j6 := hH3.out
  have j7 := hL2.out
  have j8 := hH2.out
  have j9 := g3.out
  have j10 := g4.out
  go_quiet (fail)
  have Y7 : Blk (w6.drewN nq) g6 31 (mvArr 251 (MV : Int) (MU : Int) (D : Int)) := Y6
  have hb7 := below_drewN hb6 nq
  generalize w6.drewN nq = w7 at *
  clear Y6 hb6 j1 j2 j5 j6 j7 j8 j9 j10
  obtain ⟨⟨y0, y1, y2, y3⟩, -⟩ := Y7.four
  have hsum := HS.out
  go_wp2_with fail
  refine (SH.out _).mono ?_
  rintro e w8 ⟨rfl, hb8⟩
  have hb9 := below_chain hb8 hb7
  clear hb8 hb7 Y7 y0 y1 y2 y3
  go_wp2_with fail
  refine (AW.out _).mono ?_
  rintro e w9 ⟨rfl, hb10⟩
  go_wp2_with fail
  go_ret
  exact ⟨rfl, below_chain hb10 hb9⟩

theorem shiftMust_calls (l : List Bk) (A : Option Addr) (c : Nat) (ka kb : Int) (gr : Bool) (a : Nat) (w : World) (hr : Reads w w.heap.size 6 A l.length (l.flatMap Bk.cells)) (hl : l.length ≤ 9223372036854775807) (ha : a < 256) :
    Calls Try.prog 4 #[.slice A l.length c, .agg #[.int .u64 ka, .int .u64 kb], .bool gr, .int .u8 (a : Int)] w fun e w' => e = .returned (.bool true) ∧ Below w.heap.size w w' := by
  cases gr
  · exact shiftMust_false l A c ka kb a w hr hl ha
  · exact shiftMust_true l A c ka kb a w hr hl ha
end Go.Proofs.Ytkpkjpdhlmjchaa
