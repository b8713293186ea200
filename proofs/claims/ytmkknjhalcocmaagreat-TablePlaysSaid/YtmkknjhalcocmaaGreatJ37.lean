/- table: a step of both tables. -/
import Derived.Test.YtmkknjhalcocmaaGreatJ36
import Derived.Test.YtmkknjhalcocmaaGreatJ14
namespace Go.Proofs.YtmkknjhalcocmaaGreat
open Go Go.RowKit Go.Deep Go.Maps Go.ChangeMaps

section
variable {w0 w w' : World} {g sb n g2 : Nat} {b : Int} {c : TCfg} {s : TSt} {K : Nat → Prop}
abbrev TStp.val (st : TStp) : Value := .agg #[.int .i64 st.kd, .int .i64 st.tu.p, .bool st.tu.v, .int .u64 st.tu.hi, .int .u64 st.tu.lo, .bool st.tu.v', .int .u64 st.tu.hi', .int .u64 st.tu.lo', .int .i64 st.tu.sp, .int .i64 st.tu.dp, .int .i64 st.sl, .int .i64 st.n, .int .i64 st.bk, .int .u64 st.low, .int .i64 st.bt]
/-- Both tables have gone on. -/
def TwoTo (w0 w w' : World) (g sb n g2 : Nat) (b : Int) (c : TCfg) (K : Nat → Prop) : Prop := ∃ s', TwoT w0 w' g sb n g2 b c s' s' K K ∧ Chg (Nk w0 K) w w'
set_option maxRecDepth 100000 in
set_option maxHeartbeats 16000000 in
theorem one_open (h : TwoT w0 w g sb n g2 b c s s K K) (hK : ∀ y, K y → y < w.heap.size) (st : TStp) (hkd : st.kd = 0) :
    Calls Tryz.prog 7 #[.pointer (some ⟨g, 0, none⟩), .pointer (some ⟨g2, 0, none⟩), st.val] w fun e w' => e = .returned (.bool true) ∧ TwoTo w0 w w' g sb n g2 b c K := by
  have B1 := Blk.new w 39 #[.int .i64 st.kd, .int .i64 st.tu.p, .bool st.tu.v, .int .u64 st.tu.hi, .int .u64 st.tu.lo, .bool st.tu.v', .int .u64 st.tu.hi', .int .u64 st.tu.lo', .int .i64 st.tu.sp, .int .i64 st.tu.dp, .int .i64 st.sl, .int .i64 st.n, .int .i64 st.bk, .int .u64 st.low, .int .i64 st.bt]
  have hb1 := below_alloc (Below.refl w.heap.size w) (.cells #[.int .i64 st.kd, .int .i64 st.tu.p, .bool st.tu.v, .int .u64 st.tu.hi, .int .u64 st.tu.lo, .bool st.tu.v', .int .u64 st.tu.hi', .int .u64 st.tu.lo', .int .i64 st.tu.sp, .int .i64 st.tu.dp, .int .i64 st.sl, .int .i64 st.n, .int .i64 st.bk, .int .u64 st.low, .int .i64 st.bt] 39)
  have h1 := h.call hb1
  have hw0 := h.below.size
  have x0 : (st.kd == 0) = true := by simpa using hkd
  clear h hkd
  replace h1 := Lib.hid h1
  replace hK := Lib.hid hK
  go_enter Tryz.func7, Tryz.ntmps7
  go_upto_region 1 with fail
  have hzz := B1.lt
  obtain ⟨p, hp⟩ : ∃ p, w.heap.size = p := ⟨_, rfl⟩
  generalize w.alloc (.cells #[.int .i64 st.kd, .int .i64 st.tu.p, .bool st.tu.v, .int .u64 st.tu.hi, .int .u64 st.tu.lo, .bool st.tu.v', .int .u64 st.tu.hi', .int .u64 st.tu.lo', .int .i64 st.tu.sp, .int .i64 st.tu.dp, .int .i64 st.sl, .int .i64 st.n, .int .i64 st.bk, .int .u64 st.low, .int .i64 st.bt] 39) = w1 at *
  have PC := Lib.hid fun W (hW : Below w1.heap.size w1 W) => B1.call hW
  rw [hp] at PC
  try rw [hp]
  have P1 := PC.out w1 (Below.refl _ _)
  have p0 : w1.cell? ⟨p, 0, none⟩ = some (.int .i64 st.kd) := P1.cell 0
  have p1 : w1.cell? ⟨p, 1, none⟩ = some (.int .i64 st.tu.p) := P1.cell 1
  have p2 : w1.cell? ⟨p, 2, none⟩ = some (.bool st.tu.v) := P1.cell 2
  have p3 : w1.cell? ⟨p, 3, none⟩ = some (.int .u64 st.tu.hi) := P1.cell 3
  have p4 : w1.cell? ⟨p, 4, none⟩ = some (.int .u64 st.tu.lo) := P1.cell 4
  have p5 : w1.cell? ⟨p, 5, none⟩ = some (.bool st.tu.v') := P1.cell 5
  have p6 : w1.cell? ⟨p, 6, none⟩ = some (.int .u64 st.tu.hi') := P1.cell 6
  have p7 : w1.cell? ⟨p, 7, none⟩ = some (.int .u64 st.tu.lo') := P1.cell 7
  have p8 : w1.cell? ⟨p, 8, none⟩ = some (.int .i64 st.tu.sp) := P1.cell 8
  have p9 : w1.cell? ⟨p, 9, none⟩ = some (.int .i64 st.tu.dp) := P1.cell 9
  have p10 : w1.cell? ⟨p, 10, none⟩ = some (.int .i64 st.sl) := P1.cell 10
  have p11 : w1.cell? ⟨p, 11, none⟩ = some (.int .i64 st.n) := P1.cell 11
  have p12 : w1.cell? ⟨p, 12, none⟩ = some (.int .i64 st.bk) := P1.cell 12
  have p13 : w1.cell? ⟨p, 13, none⟩ = some (.int .u64 st.low) := P1.cell 13
  have p14 : w1.cell? ⟨p, 14, none⟩ = some (.int .i64 st.bt) := P1.cell 14
  have OP := Lib.hid (twot_open h1.out (fun y hy => by
    rcases hy with h | h
    · have := hK.out y h
      omega
    · omega) st.tu st.bk st.n)
  obtain ⟨ov, hov⟩ : ∃ v, openV c s st.tu st.bk st.n = v := ⟨_, rfl⟩
  obtain ⟨oe, hoe⟩ : ∃ v, openE s st.tu st.bk st.n = v := ⟨_, rfl⟩
  obtain ⟨os, hos⟩ : ∃ v, openS c n s st.tu st.bk st.n = v := ⟨_, rfl⟩
  rw [hov, hoe, hos] at OP
  have hpp : w.heap.size ≤ p ∧ p < w1.heap.size := by omega
  have hb1' := Lib.hid hb1
  have P1' := Lib.hid P1
  clear P1 B1 hb1
  replace hov := Lib.hid hov
  replace hoe := Lib.hid hoe
  replace hos := Lib.hid hos
  go_upto_region 4 with (go_at_call 13; (with_reducible refine OP.out.mono ?_); rintro e w2 ⟨rfl, h2, k2⟩)
  change Code.wp _ _ _ _ (w2.alloc (.cells ov.entA 55))
  have BA := Blk.new w2 55 ov.entA
  have hbA := below_alloc (Below.refl w2.heap.size w2) (.cells ov.entA 55)
  have h3 := (h2.call hbA).mono (K1' := New2 w2 (w2.alloc (.cells ov.entA 55)) (New2 w w1 K)) (K2' := New2 w2 (w2.alloc (.cells ov.entA 55)) (New2 w w1 K)) (fun y hy => hy) (fun y hy => hy.imp (fun h => .inl h) id)
  have P3 := (P1'.out.chg k2 (fun e => e.2 (.inr hpp))).call hbA
  have hzA : (w2.alloc (.cells ov.entA 55)).heap.size = w2.heap.size + 1 := World.size_alloc _ _
  have hz2 := k2.size
  have kA := k2.mono (G := Nk w0 K) (fun y _ e => ⟨e.1, fun h => e.2 (.inl h)⟩)
  generalize w2.alloc (.cells ov.entA 55) = w3 at *
  obtain ⟨ra, hra⟩ : ∃ r, w2.heap.size = r := ⟨_, rfl⟩
  have hraK : w2.heap.size ≤ ra ∧ ra < w3.heap.size := by omega
  rw [hra] at BA
  try rw [hra]
  clear p0 p1 p2 p3 p4 p5 p6 p7 p8 p9 p10 p11 p12 p13 p14 OP k2 h2
  have p0 : w3.cell? ⟨p, 0, none⟩ = some (.int .i64 st.kd) := P3.cell 0
  have p1 : w3.cell? ⟨p, 1, none⟩ = some (.int .i64 st.tu.p) := P3.cell 1
  have p2 : w3.cell? ⟨p, 2, none⟩ = some (.bool st.tu.v) := P3.cell 2
  have p3 : w3.cell? ⟨p, 3, none⟩ = some (.int .u64 st.tu.hi) := P3.cell 3
  have p4 : w3.cell? ⟨p, 4, none⟩ = some (.int .u64 st.tu.lo) := P3.cell 4
  have p5 : w3.cell? ⟨p, 5, none⟩ = some (.bool st.tu.v') := P3.cell 5
  have p6 : w3.cell? ⟨p, 6, none⟩ = some (.int .u64 st.tu.hi') := P3.cell 6
  have p7 : w3.cell? ⟨p, 7, none⟩ = some (.int .u64 st.tu.lo') := P3.cell 7
  have p8 : w3.cell? ⟨p, 8, none⟩ = some (.int .i64 st.tu.sp) := P3.cell 8
  have p9 : w3.cell? ⟨p, 9, none⟩ = some (.int .i64 st.tu.dp) := P3.cell 9
  have p10 : w3.cell? ⟨p, 10, none⟩ = some (.int .i64 st.sl) := P3.cell 10
  have p11 : w3.cell? ⟨p, 11, none⟩ = some (.int .i64 st.n) := P3.cell 11
  have p12 : w3.cell? ⟨p, 12, none⟩ = some (.int .i64 st.bk) := P3.cell 12
  have p13 : w3.cell? ⟨p, 13, none⟩ = some (.int .u64 st.low) := P3.cell 13
  have p14 : w3.cell? ⟨p, 14, none⟩ = some (.int .i64 st.bt) := P3.cell 14
  have OD := Lib.hid (twot_dopen h3 (fun y hy => by
    rcases hy with (h | h) | h
    · have := hK.out y h
      omega
    · omega
    · omega) st.tu st.bk st.n)
  rw [hov.out, hoe.out, hos.out] at OD
  replace BA := Lib.hid BA
  replace kA := Lib.hid kA
  replace hbA := Lib.hid hbA
  clear h3 P3
  go_upto_region 5 with (go_at_call 24; (with_reducible refine OD.out.mono ?_); rintro e w4 ⟨rfl, h4, k4⟩)
  change Code.wp _ _ _ _ (w4.alloc (.cells ov.entA 55))
  have BB := Blk.new w4 55 ov.entA
  have hbB := below_alloc (Below.refl w4.heap.size w4) (.cells ov.entA 55)
  have BA5 := (BA.out.chg k4 (fun e => e.2 (.inr hraK))).call hbB
  have h5 := (h4.call hbB).mono (K1' := K) (K2' := K) (fun y hy => .inl (.inl (.inl (.inl hy)))) (fun y hy => .inl (.inl (.inl hy)))
  have kB := k4.mono (G := Nk w0 K) (fun y _ e => ⟨e.1, fun h => e.2 (.inl (.inl h))⟩)
  generalize w4.alloc (.cells ov.entA 55) = w5 at *
  obtain ⟨rb, hrb⟩ : ∃ r, w4.heap.size = r := ⟨_, rfl⟩
  rw [hrb] at BB
  try rw [hrb]
  have hEQ := fun W => ent_eql ov ov W
  rw [entB_self] at hEQ
  have hG : Tryz.prog.eqGuardType Tryz.prog.depth 55 = false := by kernel_rfl
  have hoo : (oe == oe) = true := by simp
  have hfin : TwoTo w0 w w5 g sb n g2 b c K := ⟨os, h5, ((((Chg.of_below hb1'.out).trans kA.out (fun _ _ h => h)).trans (Chg.of_below (F := Nk w0 K) hbA.out) (fun _ _ h => h)).trans kB (fun _ _ h => h)).trans (Chg.of_below (F := Nk w0 K) hbB) (fun _ _ h => h)⟩
  replace hfin := Lib.hid hfin
  clear h4 k4 kB h5 hbB OD p0 p1 p2 p3 p4 p5 p6 p7 p8 p9 p10 p11 p12 p13 p14
  go_wp2_with (first
    | (refine wpList_load_entR rfl (.tmp 7) rfl ⟨ra, 0, none⟩ rfl ov (blk_at BA5) ?_)
    | (refine wpList_load_entR rfl (.tmp 9) rfl ⟨rb, 0, none⟩ rfl ov (blk_at BB) ?_))
  go_ret
  exact ⟨rfl, hfin.out⟩
end
end Go.Proofs.YtmkknjhalcocmaaGreat
