/- table: the document's Open. -/
import Derived.Test.YtmkknjhalcocmaaGreatJ29
namespace Go.Proofs.YtmkknjhalcocmaaGreat
open Go Go.RowKit Go.Deep Go.Maps Go.ChangeMaps

theorem awaitS_open (c : TCfg) (n : Nat) (s : TSt) (k : Nat) (l : List Int) (t : Tup) (bk fl : Int) : awaitS c (openS1 n s k l t bk fl) k = { lookS n k { s with L := l } with E := updE (lookS n k { s with L := l }).E k { openX (s.E k) t bk fl with due := dueT c s.now (beginS t.p fl) }, M := lmPut (lookS n k { s with L := l }).M k (dueT c s.now (beginS t.p fl)) } := by
  unfold awaitS openS1
  rw [Int.toNat_natCast]
  dsimp only
  rw [updE_updE, updE_self, lookS_E, lookS_now]
  rfl
section
variable {w w' w1 w2 : World} {g n : Nat} {b : Int} {c : TCfg} {s : TSt} {X X1 X2 F : Nat → Prop}
set_option maxRecDepth 100000 in
set_option maxHeartbeats 16000000 in
theorem ddtab_open (h : DTabP w g n b c (dOf n s) X) (hti : TI n s) (hI : c.right) (t : Tup) (bk fl : Int) :
    Calls Tryz.prog 24 #[.pointer (some ⟨g, 0, none⟩), t.val, .int .i64 bk, .int .i64 fl] w fun e w' => e = .returned (.tuple #[(openV c s t bk fl).val, .int .i64 (openE s t bk fl)]) ∧ DTo w w' g n b c (dOf n (openS c n s t bk fl)) X := by
  have hn := h.n4096
  have hXlt : ∀ y, X y → y < w.heap.size := fun y hy => h.lt hy
  have P0 := Blk.new w 37 t.cells.toArray
  have hb0 : Below w.heap.size w (w.alloc (.cells t.cells.toArray 37)) := below_alloc (Below.refl _ _) _
  have B1 := Blk.new (w.alloc (.cells t.cells.toArray 37)) 55 slt0.entA
  have hb1 : Below w.heap.size w ((w.alloc (.cells t.cells.toArray 37)).alloc (.cells slt0.entA 55)) := below_alloc hb0 _
  have P1 := P0.alloc (.cells slt0.entA 55)
  have h1 := h.call hb1
  have hzz := B1.lt
  rw [World.size_alloc] at B1 hzz
  clear h hb0 P0
  replace hI := Lib.hid hI
  replace B1 := Lib.hid B1
  replace hti := Lib.hid hti
  replace hXlt := Lib.hid hXlt
  replace h1 := Lib.hid h1
  go_enter Tryz.func24, Tryz.ntmps24
  go_upto_region 1 with fail
  change Code.wp _ _ _ _ ((w.alloc (.cells t.cells.toArray 37)).alloc (.cells slt0.entA 55))
  obtain ⟨r, hr⟩ : ∃ r, w.heap.size + 1 = r := ⟨_, rfl⟩
  obtain ⟨p, hp⟩ : ∃ p, w.heap.size = p := ⟨_, rfl⟩
  rw [hr] at B1 hzz
  rw [hp] at P1
  generalize (w.alloc (.cells t.cells.toArray 37)).alloc (.cells slt0.entA 55) = w1 at *
  try rw [hr]
  try rw [hp]
  have BG := Lib.hid fun W => refbegin_any t.p fl W
  have TR := Lib.hid (reftuple_right t w1)
  have hpw : p < w1.heap.size := P1.lt
  have p0 : w1.cell? ⟨p, 0, none⟩ = some (.int .i64 t.p) := P1.cell 0
  have p1 : w1.cell? ⟨p, 1, none⟩ = some (.bool t.v) := P1.cell 1
  have p2 : w1.cell? ⟨p, 2, none⟩ = some (.int .u64 t.hi) := P1.cell 2
  have p3 : w1.cell? ⟨p, 3, none⟩ = some (.int .u64 t.lo) := P1.cell 3
  have p4 : w1.cell? ⟨p, 4, none⟩ = some (.bool t.v') := P1.cell 4
  have p5 : w1.cell? ⟨p, 5, none⟩ = some (.int .u64 t.hi') := P1.cell 5
  have p6 : w1.cell? ⟨p, 6, none⟩ = some (.int .u64 t.lo') := P1.cell 6
  have p7 : w1.cell? ⟨p, 7, none⟩ = some (.int .i64 t.sp) := P1.cell 7
  have p8 : w1.cell? ⟨p, 8, none⟩ = some (.int .i64 t.dp) := P1.cell 8
  obtain ⟨st, hst⟩ : ∃ st, beginS t.p fl = st := ⟨_, rfl⟩
  obtain ⟨tk, htk⟩ : ∃ tk, tupOk t = tk := ⟨_, rfl⟩
  rw [hst] at BG
  rw [htk] at TR
  by_cases hok : openOk t bk fl = true
  · have ho2 := hok
    unfold openOk at ho2
    rw [hst, htk] at ho2
    simp only [Bool.and_eq_true, decide_eq_true_eq, Bool.not_eq_true'] at ho2
    obtain ⟨⟨rfl, hbk⟩, hst0⟩ := ho2
    have x1 : decide (bk < 0) = false := by simp; omega
    have x2 : decide (65535 < bk) = false := by simp; omega
    go_upto_region 4 with (first
      | (go_at_call 46; (with_reducible refine (BG.out _).mono ?_); rintro e w8 ⟨rfl, rfl⟩)
      | (go_at_call 47; (with_reducible refine TR.out.mono ?_); rintro e w2 ⟨rfl, hb2⟩))
    have h2 := h1.out.call hb2
    have B2 := B1.out.call hb2
    have P2 := P1.call hb2
    have hzz2 := hb2.size
    have hT2 : XTo w1 w2 X X := XTo.call hb2
    clear BG TR p0 p1 p2 p3 p4 p5 p6 p7 p8 x1 x2 hb2
    have hLl : s.L.length ≤ 1000000 := by have := live_free hti.out; omega
    obtain ⟨fs, c5, PO⟩ := dtab_pop h2 hLl
    replace PO := Lib.hid PO
    clear h2
    replace hT2 := Lib.hid hT2
    cases hL : s.L with
    | nil =>
      have eS : ({ dOf n s with L := [] } : DTs) = dOf n s := by rw [← hL]
      have hO : openE s t bk fl = 9 := by unfold openE; rw [hok, hL]; rfl
      have hV : openV c s t bk fl = slt0 := by unfold openV; rw [hok, hL]; rfl
      have hS : openS c n s t bk fl = s := by unfold openS; rw [hok, hL]; rfl
      dsimp only [dOf] at PO
      rw [hL] at PO
      replace eS := Lib.hid eS
      replace hS := Lib.hid hS
      replace hV := Lib.hid hV
      replace hO := Lib.hid hO
      replace hL := Lib.hid hL
      go_upto_region 5 with (go_at_call 48; (with_reducible refine PO.out.mono ?_); rintro e w3 ⟨rfl, X3, h3, k3⟩)
      have B3 := B2.chg k3.1 (fun e => by have := hXlt.out _ e; omega)
      have hT3 : DTo w1 w3 g n b c (dOf n s) X := DTo.mk (by rw [← eS.out]; exact h3) (hT2.out.trans k3)
      replace hT3 := Lib.hid hT3
      clear h3 k3 PO c5 B2 P2 P1
      go_wp2_with (refine wpList_store_entB rfl rfl (.tmp 8) (.tmp 44) rfl B3 slt0 rfl rfl ?_)
      change bodyPost _ _ _ _ _ (setEnt w3 r slt0)
      obtain ⟨B6, hc6⟩ := setEnt_blk B3 slt0
      have hTz := DTo.fin hXlt.out hb1 hT3.out hc6 (by omega) (by omega)
      generalize setEnt w3 r slt0 = wz at *
      obtain ⟨r0, r1, r2, r3, r4, r5, r6, r7, r8, r9, r10, r11, r12, r13, -⟩ := ent_blk B6
      clear B6 hc6
      replace hTz := Lib.hid hTz
      refine bodyPost_ret (v := .tuple #[(slt0).val, .int .i64 9]) (by simp [results, Tryz.results24, go_sem, r0, r1, r2, r3, r4, r5, r6, r7, r8, r9, r10, r11, r12, r13]) rfl ?_
      exact ⟨by rw [hV.out, hO.out], by rw [hS.out]; exact hTz.out⟩
    | cons i0 l =>
      have hi0 := hti.out.rng i0 (by rw [hL]; exact List.mem_cons_self)
      obtain ⟨k, rfl⟩ : ∃ k : Nat, i0 = (k : Int) := ⟨i0.toNat, by omega⟩
      have hk : k < n := by omega
      have hsl := hti.out.sl k hk
      have hO : openE s t bk fl = 0 := by unfold openE; rw [hok, hL]; rfl
      have hV : openV c s t bk fl = { openX (s.E k) t bk fl with due := dueT c s.now (beginS t.p fl) } := by unfold openV; rw [hok, hL]; rfl
      have hS : openS c n s t bk fl = { lookS n k { s with L := l } with E := updE (lookS n k { s with L := l }).E k { openX (s.E k) t bk fl with due := dueT c s.now (beginS t.p fl) }, M := lmPut (lookS n k { s with L := l }).M k (dueT c s.now (beginS t.p fl)) } := by
        unfold openS
        rw [hok, hL]
        exact awaitS_open c n s k l t bk fl
      have hsl2 : ∀ q : Nat, q < n → ((lookS n k { s with L := l }).E q).sl = q := fun q hq => by rw [lookS_E]; exact hti.out.sl q hq
      have hPT := dOf_put (s := lookS n k { s with L := l }) hsl2 k hk { openX (s.E k) t bk fl with due := dueT c s.now (beginS t.p fl) } rfl hsl (by rw [lookS_E]; rfl)
      have hsrt := liveE_sorted (E := (lookS n k { s with L := l }).E) n hsl2
      have hn2 := Nat.le_trans (liveE_len (lookS n k { s with L := l }).E n) hn
      have hM2 : (lookS n k { s with L := l }).M.length ≤ 100000 := by rw [lookS_M]; exact hti.out.mlen5 hn
      dsimp only [dOf] at PO
      rw [hL] at PO
      simp only [List.headD_cons, List.isEmpty_cons, Bool.not_false, List.tail_cons] at PO
      rw [hst] at hV hS hPT
      have hid := hI.out st
      obtain ⟨gk, hgk⟩ : ∃ v, (s.E k).gen = v := ⟨_, rfl⟩
      obtain ⟨y, hy⟩ : ∃ y, ({ openX (s.E k) t bk fl with due := dueT c s.now st } : Slt) = y := ⟨_, rfl⟩
      have hyE : y = ⟨t, bk, st, (k : Int), gk, dueT c s.now st, true⟩ := by
        rw [← hy]
        unfold openX
        rw [hst, hsl, hgk]
      rw [hy] at hV hS hPT
      replace hS := Lib.hid hS
      replace hV := Lib.hid hV
      replace hO := Lib.hid hO
      replace hL := Lib.hid hL
      replace hPT := Lib.hid hPT
      replace hyE := Lib.hid hyE
      replace hsrt := Lib.hid hsrt
      replace hn2 := Lib.hid hn2
      replace hM2 := Lib.hid hM2
      clear hy hsl hsl2 hst
      go_upto_region 5 with (go_at_call 48; (with_reducible refine PO.out.mono ?_); rintro e w3 ⟨rfl, X3, h3, k3⟩)
      have h3' : DTabP w3 g n b c (dOf n { s with L := l }) X3 := h3
      have LK := Lib.hid (ddtab_look h3' k)
      have B3 := B2.chg k3.1 (fun e => by have := hXlt.out _ e; omega)
      have P3 := P2.chg k3.1 (fun e => by have := hXlt.out _ e; omega)
      have hnr : ¬ X3 r := fun hx => (k3.2 _ hx).elim (fun h => by have := hXlt.out _ h; omega) (fun h => by omega)
      have hnp : ¬ X3 p := fun hx => (k3.2 _ hx).elim (fun h => by have := hXlt.out _ h; omega) (fun h => by omega)
      have hT3 := Lib.hid (hT2.out.trans k3)
      clear h3 k3 PO c5 B2 P2 P1
      go_upto_region 8 with (go_at_call 49; (with_reducible refine LK.out.mono ?_); rintro e w4 ⟨rfl, h4, hc4⟩)
      have B4 := B3.chg hc4 hnr
      have P4 := P3.chg hc4 hnp
      have hT4 := Lib.hid (hT3.out.trans (XTo.of hc4))
      obtain ⟨u1, u2, u3, u4, hG, hnow⟩ := h4.rule
      obtain ⟨_, wg, gb, _, _, -, c6, -, c8, -, -, -, hGr, cw, -⟩ := h4.cells
      have cg := hGr.cell hk
      dsimp only [dOf] at cw hnow cg
      rw [lookS_now] at cw hnow
      rw [lookS_E] at cg
      dsimp only at cw hnow cg
      rw [hgk] at cg
      have p0 : w4.cell? ⟨p, 0, none⟩ = some (.int .i64 t.p) := P4.cell 0
      have p1 : w4.cell? ⟨p, 1, none⟩ = some (.bool t.v) := P4.cell 1
      have p2 : w4.cell? ⟨p, 2, none⟩ = some (.int .u64 t.hi) := P4.cell 2
      have p3 : w4.cell? ⟨p, 3, none⟩ = some (.int .u64 t.lo) := P4.cell 3
      have p4 : w4.cell? ⟨p, 4, none⟩ = some (.bool t.v') := P4.cell 4
      have p5 : w4.cell? ⟨p, 5, none⟩ = some (.int .u64 t.hi') := P4.cell 5
      have p6 : w4.cell? ⟨p, 6, none⟩ = some (.int .u64 t.lo') := P4.cell 6
      have p7 : w4.cell? ⟨p, 7, none⟩ = some (.int .i64 t.sp) := P4.cell 7
      have p8 : w4.cell? ⟨p, 8, none⟩ = some (.int .i64 t.dp) := P4.cell 8
      have hwr : IntKind.i64.wrap (s.now + idleS c.a c.b c.c c.d st) = dueT c s.now st := by unfold dueT; simp [IntKind.wrap, IntKind.bits, IntKind.signed]; omega
      have hdr : 0 ≤ dueT c s.now st ∧ dueT c s.now st ≤ 2199023255552 := by unfold dueT; omega
      have ID := Lib.hid fun W => refidle_any c.a c.b c.c c.d st W
      generalize dueT c s.now st = due at *
      generalize idleS c.a c.b c.c c.d st = idl at *
      have SB := Lib.hid fun W (hb : Below w4.heap.size w4 W) => show (Below w4.heap.size w4 W ∧ W.cell? ⟨p, 0, none⟩ = some (.int .i64 t.p) ∧ W.cell? ⟨p, 1, none⟩ = some (.bool t.v) ∧ W.cell? ⟨p, 2, none⟩ = some (.int .u64 t.hi) ∧ W.cell? ⟨p, 3, none⟩ = some (.int .u64 t.lo) ∧ W.cell? ⟨p, 4, none⟩ = some (.bool t.v') ∧ W.cell? ⟨p, 5, none⟩ = some (.int .u64 t.hi') ∧ W.cell? ⟨p, 6, none⟩ = some (.int .u64 t.lo') ∧ W.cell? ⟨p, 7, none⟩ = some (.int .i64 t.sp) ∧ W.cell? ⟨p, 8, none⟩ = some (.int .i64 t.dp) ∧ W.cell? ⟨g, 1, none⟩ = some (.int .i64 c.a) ∧ W.cell? ⟨g, 2, none⟩ = some (.int .i64 c.b) ∧ W.cell? ⟨g, 3, none⟩ = some (.int .i64 c.c) ∧ W.cell? ⟨g, 4, none⟩ = some (.int .i64 c.d) ∧ W.cell? ⟨g, 6, none⟩ = some (.pointer (some ⟨wg, 0, none⟩)) ∧ W.cell? ⟨g, 8, none⟩ = some (.slice (some ⟨gb, 0, none⟩) n n) ∧ W.cell? ⟨wg, 1, none⟩ = some (.int .i64 s.now) ∧ W.cell? ⟨gb, k, none⟩ = some (.int .u64 gk)) from
        ⟨hb, (hb.cell (block_lt_of_cell p0)).trans p0, (hb.cell (block_lt_of_cell p1)).trans p1, (hb.cell (block_lt_of_cell p2)).trans p2, (hb.cell (block_lt_of_cell p3)).trans p3, (hb.cell (block_lt_of_cell p4)).trans p4, (hb.cell (block_lt_of_cell p5)).trans p5, (hb.cell (block_lt_of_cell p6)).trans p6, (hb.cell (block_lt_of_cell p7)).trans p7, (hb.cell (block_lt_of_cell p8)).trans p8, (hb.cell (block_lt_of_cell u1)).trans u1, (hb.cell (block_lt_of_cell u2)).trans u2, (hb.cell (block_lt_of_cell u3)).trans u3, (hb.cell (block_lt_of_cell u4)).trans u4, (hb.cell (block_lt_of_cell c6)).trans c6, (hb.cell (block_lt_of_cell c8)).trans c8, (hb.cell (block_lt_of_cell cw)).trans cw, (hb.cell (block_lt_of_cell cg)).trans cg⟩
      have hb0 : Below w4.heap.size w4 w4.drew := (Below.refl _ _).drew
      have hbz : Below w4.heap.size w4 (w4.alloc (.cells #[.int .i64 0, .bool false, .int .u64 0, .int .u64 0, .bool false, .int .u64 0, .int .u64 0, .int .i64 0, .int .i64 0, .int .i64 0, .int .i64 0, .int .i64 0, .int .u64 0, .int .i64 0] 55)).drew := (below_alloc (Below.refl _ _) _).drew
      have hBz : Blk (w4.alloc (.cells #[.int .i64 0, .bool false, .int .u64 0, .int .u64 0, .bool false, .int .u64 0, .int .u64 0, .int .i64 0, .int .i64 0, .int .i64 0, .int .i64 0, .int .i64 0, .int .u64 0, .int .i64 0] 55)).drew w4.heap.size 55 slt0.entA := Blk.new w4 55 slt0.entA
      have hS0 := SB.out _ hb0
      have hki : (k : Int) < (n : Int) := by omega
      have hk0 : (0 : Int) ≤ (k : Int) := by omega
      replace h4 := Lib.hid h4
      replace B4 := Lib.hid B4
      replace P4 := Lib.hid P4
      replace hwr := Lib.hid hwr
      replace hBz := Lib.hid hBz
      clear hGr hgk LK hc4 B3 P3 h3' p0 p1 p2 p3 p4 p5 p6 p7 p8 u1 u2 u3 u4 c6 c8 cw cg
      go_upto_region 8 with fail
      have hSz := SB.out _ hbz
      go_region_held3 (fun W => Below w4.heap.size w4 W ∧ W.cell? ⟨p, 0, none⟩ = some (.int .i64 t.p) ∧ W.cell? ⟨p, 1, none⟩ = some (.bool t.v) ∧ W.cell? ⟨p, 2, none⟩ = some (.int .u64 t.hi) ∧ W.cell? ⟨p, 3, none⟩ = some (.int .u64 t.lo) ∧ W.cell? ⟨p, 4, none⟩ = some (.bool t.v') ∧ W.cell? ⟨p, 5, none⟩ = some (.int .u64 t.hi') ∧ W.cell? ⟨p, 6, none⟩ = some (.int .u64 t.lo') ∧ W.cell? ⟨p, 7, none⟩ = some (.int .i64 t.sp) ∧ W.cell? ⟨p, 8, none⟩ = some (.int .i64 t.dp) ∧ W.cell? ⟨g, 1, none⟩ = some (.int .i64 c.a) ∧ W.cell? ⟨g, 2, none⟩ = some (.int .i64 c.b) ∧ W.cell? ⟨g, 3, none⟩ = some (.int .i64 c.c) ∧ W.cell? ⟨g, 4, none⟩ = some (.int .i64 c.d) ∧ W.cell? ⟨g, 6, none⟩ = some (.pointer (some ⟨wg, 0, none⟩)) ∧ W.cell? ⟨g, 8, none⟩ = some (.slice (some ⟨gb, 0, none⟩) n n) ∧ W.cell? ⟨wg, 1, none⟩ = some (.int .i64 s.now) ∧ W.cell? ⟨gb, k, none⟩ = some (.int .u64 gk)) ((show _ ∧ _; with_reducible assumption)) (first
        | (go_at_call 50; (with_reducible refine (ID.out _).mono ?_); rintro e w5 ⟨rfl, hb5⟩; have hb6 := below_chain hb5 hb0; have hS5 := SB.out _ hb6; have hSa := SB.out _ (below_alloc hb6 (.cells #[.int .i64 0, .bool false, .int .u64 0, .int .u64 0, .bool false, .int .u64 0, .int .u64 0, .int .i64 0, .int .i64 0, .int .i64 0, .int .i64 0, .int .i64 0, .int .u64 0, .int .i64 0] 55)); have hSb := SB.out _ (below_alloc hb6 (.cells #[.int .i64 t.p, .bool t.v, .int .u64 t.hi, .int .u64 t.lo, .bool t.v', .int .u64 t.hi', .int .u64 t.lo', .int .i64 t.sp, .int .i64 t.dp, .int .i64 bk, .int .i64 st, .int .i64 (k : Int), .int .u64 gk, .int .i64 (IntKind.i64.wrap (s.now + idl))] 55)))
        | (go_at_call 50; (with_reducible refine (ID.out _).mono ?_); rintro e w5 ⟨rfl, hb5⟩; have hb6 := below_chain hb5 hbz; have hS5 := SB.out _ hb6; have hB5 := hBz.out.call hb5; obtain ⟨r0, r1, r2, r3, r4, r5, r6, r7, r8, r9, r10, r11, r12, r13, rf⟩ := ent_blk hB5; have hSc := SB.out (setEnt w5 w4.heap.size ⟨t, bk, st, (k : Int), gk, IntKind.i64.wrap (s.now + idl), true⟩) (below_chg hb6 (setEnt_blk hB5 _).2 (fun q hq e => by have e2 : q = w4.heap.size := e; omega) hb6.size)))
      rotate_left
      · rw [hwr.out]
        change Exit.then _ _ _ _ (setEnt w5 w4.heap.size ⟨t, bk, st, (k : Int), gk, due, true⟩)
        rw [← hyE.out]
        have hBy := (setEnt_blk hB5 y).1
        have hby := below_chg hb6 (setEnt_blk hB5 y).2 (fun q hq e => by have e2 : q = w4.heap.size := e; omega) hb6.size
        clear hS5 hSc hB5 rf r0 r1 r2 r3 r4 r5 r6 r7 r8 r9 r10 r11 r12 r13 hb6
        generalize setEnt w5 w4.heap.size y = wq at *
        have hr3 : w4.heap.size ≤ w4.heap.size := Nat.le_refl _
        obtain ⟨r3, hr3e⟩ : ∃ r3, w4.heap.size = r3 := ⟨_, rfl⟩
        rw [hr3e] at hBy
        try rw [hr3e]
        have hr3 : w4.heap.size ≤ r3 := Nat.le_of_eq hr3e
        have h5 := h4.out.call hby
        have PU := Lib.hid (dtab_put h5 hsrt.out hn2.out y)
        have hT5 := Lib.hid (hT4.out.trans (XTo.call hby))
        have hBr := B4.out.call hby
        have hbyz := hby.size
        have hrw := hBr.lt
        have h4lt := Lib.hid (fun (hx : X3 r3) => h4.out.lt hx)
        clear h5 hby hS0 hSz SB ID hb0 hbz hBz hwr P4 B4
        go_upto_region 10 with (first
          | (refine wpList_load_entR rfl (.tmp 13) rfl ⟨r3, 0, none⟩ rfl y (blk_at hBy) ?_)
          | (go_at_call 51; (with_reducible refine PU.out.mono ?_); rintro e w8 ⟨rfl, X8, h8, k8⟩))
        have hd8 : Below w8.heap.size w8 w8.drew := (Below.refl _ _).drew
        have k9 : XTo w1 w8.drew X X8 := (hT5.out.trans k8).trans (XTo.call hd8)
        have hn3 : ¬ X3 r3 := fun hx => by have := h4lt.out hx; omega
        have hB8 := (hBy.chg k8.1 hn3).call hd8
        have hB8r := (hBr.chg k8.1 hnr).call hd8
        have hn2X : ¬ X8 r3 := fun hx => (k8.2 _ hx).elim hn3 (fun h => Nat.lt_irrefl _ (Nat.lt_of_lt_of_le hBy.lt h))
        have hnrX : ¬ X8 r := fun hx => (k8.2 _ hx).elim hnr (fun h => Nat.lt_irrefl _ (Nat.lt_of_lt_of_le hrw h))
        have h9 := h8.call hd8
        obtain ⟨wg9, c6, ST⟩ := dtab_set h9 (by exact hM2.out) k (by omega) due hdr
        have d13 : w8.drew.cell? ⟨r3, 13, none⟩ = some (.int .i64 due) := by
          have := hB8.cell 13
          rw [hyE.out] at this
          exact this
        replace ST := Lib.hid ST
        replace k9 := Lib.hid k9
        replace hB8 := Lib.hid hB8
        replace hB8r := Lib.hid hB8r
        clear PU hBy hBr h8 k8 h9 hd8 hT5 h4lt
        have c6' : w8.cell? ⟨g, 6, none⟩ = some (.pointer (some ⟨wg9, 0, none⟩)) := c6
        have d13' : w8.cell? ⟨r3, 13, none⟩ = some (.int .i64 due) := d13
        go_still_tail 7, (by kernel_rfl)
        change wpList _ _ _ _ _ w8.drew
        clear c6' d13'
        generalize w8.drew = w9 at *
        go_upto_region 11 with (go_at_call 52; (with_reducible refine ST.out.mono ?_); rintro e wa ⟨rfl, Xa, ha, ka⟩)
        have hBa := hB8.out.chg ka.1 hn2X
        have hBar := hB8r.out.chg ka.1 hnrX
        have hTa : DTo w1 wa g n b c (dOf n (openS c n s t bk fl)) X := DTo.mk (by rw [hS.out, ← hPT.out]; exact ha) (k9.out.trans ka)
        replace hTa := Lib.hid hTa
        clear ha ka ST hB8 hB8r c6 d13
        go_wp2_with (first
          | (refine wpList_load_entR rfl (.tmp 13) rfl ⟨r3, 0, none⟩ rfl y (blk_at hBa) ?_)
          | (refine wpList_store_entB rfl rfl (.tmp 8) (.tmp 85) rfl hBar y rfl rfl ?_))
        change bodyPost _ _ _ _ _ (setEnt wa r y)
        obtain ⟨B6, hc6⟩ := setEnt_blk hBar y
        have hTz := DTo.fin hXlt.out hb1 hTa.out hc6 (by omega) (by omega)
        generalize setEnt wa r y = wz at *
        obtain ⟨r0, r1, r2, r3, r4, r5, r6, r7, r8, r9, r10, r11, r12, r13, -⟩ := ent_blk B6
        clear B6 hc6
        replace hTz := Lib.hid hTz
        refine bodyPost_ret (v := .tuple #[(y).val, .int .i64 0]) (by simp [results, Tryz.results24, go_sem, r0, r1, r2, r3, r4, r5, r6, r7, r8, r9, r10, r11, r12, r13]) rfl ?_
        exact ⟨by rw [hV.out, hO.out], hTz.out⟩
      · rw [hwr.out]
        have hBy : Blk (w5.alloc (.cells #[.int .i64 t.p, .bool t.v, .int .u64 t.hi, .int .u64 t.lo, .bool t.v', .int .u64 t.hi', .int .u64 t.lo', .int .i64 t.sp, .int .i64 t.dp, .int .i64 bk, .int .i64 st, .int .i64 (k : Int), .int .u64 gk, .int .i64 due] 55)) w5.heap.size 55 y.entA := by
          rw [hyE.out]
          exact Blk.new w5 55 #[.int .i64 t.p, .bool t.v, .int .u64 t.hi, .int .u64 t.lo, .bool t.v', .int .u64 t.hi', .int .u64 t.lo', .int .i64 t.sp, .int .i64 t.dp, .int .i64 bk, .int .i64 st, .int .i64 (k : Int), .int .u64 gk, .int .i64 due]
        have hby : Below w4.heap.size w4 (w5.alloc (.cells #[.int .i64 t.p, .bool t.v, .int .u64 t.hi, .int .u64 t.lo, .bool t.v', .int .u64 t.hi', .int .u64 t.lo', .int .i64 t.sp, .int .i64 t.dp, .int .i64 bk, .int .i64 st, .int .i64 (k : Int), .int .u64 gk, .int .i64 due] 55)) := below_alloc hb6 _
        have hr3 : w4.heap.size ≤ w5.heap.size := hb6.size
        clear hS5 hSa hSb hb6
        generalize w5.alloc (.cells #[.int .i64 t.p, .bool t.v, .int .u64 t.hi, .int .u64 t.lo, .bool t.v', .int .u64 t.hi', .int .u64 t.lo', .int .i64 t.sp, .int .i64 t.dp, .int .i64 bk, .int .i64 st, .int .i64 (k : Int), .int .u64 gk, .int .i64 due] 55) = wq at *
        generalize w5.heap.size = r3 at *
        have h5 := h4.out.call hby
        have PU := Lib.hid (dtab_put h5 hsrt.out hn2.out y)
        have hT5 := Lib.hid (hT4.out.trans (XTo.call hby))
        have hBr := B4.out.call hby
        have hbyz := hby.size
        have hrw := hBr.lt
        have h4lt := Lib.hid (fun (hx : X3 r3) => h4.out.lt hx)
        clear h5 hby hS0 hSz SB ID hb0 hbz hBz hwr P4 B4
        go_upto_region 10 with (first
          | (refine wpList_load_entR rfl (.tmp 13) rfl ⟨r3, 0, none⟩ rfl y (blk_at hBy) ?_)
          | (go_at_call 51; (with_reducible refine PU.out.mono ?_); rintro e w8 ⟨rfl, X8, h8, k8⟩))
        have hd8 : Below w8.heap.size w8 w8.drew := (Below.refl _ _).drew
        have k9 : XTo w1 w8.drew X X8 := (hT5.out.trans k8).trans (XTo.call hd8)
        have hn3 : ¬ X3 r3 := fun hx => by have := h4lt.out hx; omega
        have hB8 := (hBy.chg k8.1 hn3).call hd8
        have hB8r := (hBr.chg k8.1 hnr).call hd8
        have hn2X : ¬ X8 r3 := fun hx => (k8.2 _ hx).elim hn3 (fun h => Nat.lt_irrefl _ (Nat.lt_of_lt_of_le hBy.lt h))
        have hnrX : ¬ X8 r := fun hx => (k8.2 _ hx).elim hnr (fun h => Nat.lt_irrefl _ (Nat.lt_of_lt_of_le hrw h))
        have h9 := h8.call hd8
        obtain ⟨wg9, c6, ST⟩ := dtab_set h9 (by exact hM2.out) k (by omega) due hdr
        have d13 : w8.drew.cell? ⟨r3, 13, none⟩ = some (.int .i64 due) := by
          have := hB8.cell 13
          rw [hyE.out] at this
          exact this
        replace ST := Lib.hid ST
        replace k9 := Lib.hid k9
        replace hB8 := Lib.hid hB8
        replace hB8r := Lib.hid hB8r
        clear PU hBy hBr h8 k8 h9 hd8 hT5 h4lt
        have c6' : w8.cell? ⟨g, 6, none⟩ = some (.pointer (some ⟨wg9, 0, none⟩)) := c6
        have d13' : w8.cell? ⟨r3, 13, none⟩ = some (.int .i64 due) := d13
        go_still_tail 7, (by kernel_rfl)
        change wpList _ _ _ _ _ w8.drew
        clear c6' d13'
        generalize w8.drew = w9 at *
        go_upto_region 11 with (go_at_call 52; (with_reducible refine ST.out.mono ?_); rintro e wa ⟨rfl, Xa, ha, ka⟩)
        have hBa := hB8.out.chg ka.1 hn2X
        have hBar := hB8r.out.chg ka.1 hnrX
        have hTa : DTo w1 wa g n b c (dOf n (openS c n s t bk fl)) X := DTo.mk (by rw [hS.out, ← hPT.out]; exact ha) (k9.out.trans ka)
        replace hTa := Lib.hid hTa
        clear ha ka ST hB8 hB8r c6 d13
        go_wp2_with (first
          | (refine wpList_load_entR rfl (.tmp 13) rfl ⟨r3, 0, none⟩ rfl y (blk_at hBa) ?_)
          | (refine wpList_store_entB rfl rfl (.tmp 8) (.tmp 85) rfl hBar y rfl rfl ?_))
        change bodyPost _ _ _ _ _ (setEnt wa r y)
        obtain ⟨B6, hc6⟩ := setEnt_blk hBar y
        have hTz := DTo.fin hXlt.out hb1 hTa.out hc6 (by omega) (by omega)
        generalize setEnt wa r y = wz at *
        obtain ⟨r0, r1, r2, r3, r4, r5, r6, r7, r8, r9, r10, r11, r12, r13, -⟩ := ent_blk B6
        clear B6 hc6
        replace hTz := Lib.hid hTz
        refine bodyPost_ret (v := .tuple #[(y).val, .int .i64 0]) (by simp [results, Tryz.results24, go_sem, r0, r1, r2, r3, r4, r5, r6, r7, r8, r9, r10, r11, r12, r13]) rfl ?_
        exact ⟨by rw [hV.out, hO.out], hTz.out⟩
  · have hok' : openOk t bk fl = false := by simpa using hok
    have hO : openE s t bk fl = 1 := by unfold openE; rw [hok']; rfl
    have hV : openV c s t bk fl = slt0 := by unfold openV; rw [hok']; rfl
    have hS : openS c n s t bk fl = s := by unfold openS; rw [hok']; rfl
    have ho2 := hok'
    unfold openOk at ho2
    rw [hst, htk] at ho2
    simp only [Bool.and_eq_false_iff, decide_eq_false_iff_not, Bool.not_eq_false'] at ho2
    replace hS := Lib.hid hS
    replace hV := Lib.hid hV
    replace hO := Lib.hid hO
    clear hok hok' hst htk
    cases tk
    case' false => clear ho2
    case' true =>
      by_cases b1 : bk < 0
      case' pos =>
        have x1 : decide (bk < 0) = true := by simpa using b1
        clear ho2
      case' neg =>
        have x1 : decide (bk < 0) = false := by simpa using b1
        by_cases b2 : 65535 < bk
        case' pos =>
          have x2 : decide (65535 < bk) = true := by simpa using b2
          clear ho2
        case' neg =>
          have x2 : decide (65535 < bk) = false := by simpa using b2
          have x3 : (st == 0) = true := by
            rcases ho2 with (h | h) | h
            · cases h
            · omega
            · exact h
          clear ho2
    all_goals
      go_upto_region 3 with (first
        | (go_at_call 46; (with_reducible refine (BG.out _).mono ?_); rintro e w8 ⟨rfl, rfl⟩)
        | (go_at_call 47; (with_reducible refine TR.out.mono ?_); rintro e w2 ⟨rfl, hb2⟩))
      have hT3 : DTo w1 w2 g n b c (dOf n s) X := DTo.mk (h1.out.call hb2) (XTo.call hb2)
      have B3 := B1.out.call hb2
      have hz2 := hb2.size
      clear BG TR p0 p1 p2 p3 p4 p5 p6 p7 p8 hb2 h1
      replace hT3 := Lib.hid hT3
      go_wp2_with (refine wpList_store_entB rfl rfl (.tmp 8) (.tmp 33) rfl B3 slt0 rfl rfl ?_)
      change bodyPost _ _ _ _ _ (setEnt w2 r slt0)
      obtain ⟨B6, hc6⟩ := setEnt_blk B3 slt0
      have hTz := DTo.fin hXlt.out hb1 hT3.out hc6 (by omega) (by omega)
      generalize setEnt w2 r slt0 = wz at *
      obtain ⟨r0, r1, r2, r3, r4, r5, r6, r7, r8, r9, r10, r11, r12, r13, -⟩ := ent_blk B6
      clear B6 hc6
      replace hTz := Lib.hid hTz
      refine bodyPost_ret (v := .tuple #[(slt0).val, .int .i64 1]) (by simp [results, Tryz.results24, go_sem, r0, r1, r2, r3, r4, r5, r6, r7, r8, r9, r10, r11, r12, r13]) rfl ?_
      exact ⟨by rw [hV.out, hO.out], by rw [hS.out]; exact hTz.out⟩
end
end Go.Proofs.YtmkknjhalcocmaaGreat
