/- table: a step of both tables: Go. table: a step of both tables: none of theirs. table: a step of both tables: Drop. -/
import Derived.Test.YtmkknjhalcocmaaGreatJ38
import Derived.Test.YtmkknjhalcocmaaGreatJ14
namespace Go.Proofs.YtmkknjhalcocmaaGreat
open Go Go.RowKit Go.Deep Go.Maps Go.ChangeMaps

section
variable {w0 w w' : World} {g sb n g2 : Nat} {b : Int} {c : TCfg} {s : TSt} {K : Nat → Prop}
set_option maxRecDepth 100000 in
set_option maxHeartbeats 16000000 in
theorem one_go (h : TwoT w0 w g sb n g2 b c s s K K) (hK : ∀ y, K y → y < w.heap.size) (st : TStp) (hkd : st.kd = 4) :
    Calls Tryz.prog 7 #[.pointer (some ⟨g, 0, none⟩), .pointer (some ⟨g2, 0, none⟩), st.val] w fun e w' => e = .returned (.bool true) ∧ TwoTo w0 w w' g sb n g2 b c K := by
  have B1 := Blk.new w 39 #[.int .i64 st.kd, .int .i64 st.tu.p, .bool st.tu.v, .int .u64 st.tu.hi, .int .u64 st.tu.lo, .bool st.tu.v', .int .u64 st.tu.hi', .int .u64 st.tu.lo', .int .i64 st.tu.sp, .int .i64 st.tu.dp, .int .i64 st.sl, .int .i64 st.n, .int .i64 st.bk, .int .u64 st.low, .int .i64 st.bt]
  have hb1 := below_alloc (Below.refl w.heap.size w) (.cells #[.int .i64 st.kd, .int .i64 st.tu.p, .bool st.tu.v, .int .u64 st.tu.hi, .int .u64 st.tu.lo, .bool st.tu.v', .int .u64 st.tu.hi', .int .u64 st.tu.lo', .int .i64 st.tu.sp, .int .i64 st.tu.dp, .int .i64 st.sl, .int .i64 st.n, .int .i64 st.bk, .int .u64 st.low, .int .i64 st.bt] 39)
  have h1 := h.call hb1
  have hw0 := h.below.size
  have x0 : (st.kd == 0) = false := by rw [hkd]; rfl
  have x1 : (st.kd == 1) = false := by rw [hkd]; rfl
  have x2 : (st.kd == 2) = false := by rw [hkd]; rfl
  have x3 : (st.kd == 3) = false := by rw [hkd]; rfl
  have x4 : (st.kd == 4) = true := by rw [hkd]; rfl
  have hn4 : n ≤ 4096 := by
    obtain ⟨_, _, _, _, _, _, k1, -⟩ := h
    exact k1.rng.2.2
  have hti := h.ti1
  clear h hkd
  replace h1 := Lib.hid h1
  replace hK := Lib.hid hK
  go_enter Tryz.func7, Tryz.ntmps7
  go_upto_region 1 with fail
  have hzz := B1.lt
  obtain ⟨p, hp⟩ : ∃ p, w.heap.size = p := ⟨_, rfl⟩
  generalize w.alloc (.cells #[.int .i64 st.kd, .int .i64 st.tu.p, .bool st.tu.v, .int .u64 st.tu.hi, .int .u64 st.tu.lo, .bool st.tu.v', .int .u64 st.tu.hi', .int .u64 st.tu.lo', .int .i64 st.tu.sp, .int .i64 st.tu.dp, .int .i64 st.sl, .int .i64 st.n, .int .i64 st.bk, .int .u64 st.low, .int .i64 st.bt] 39) = w1 at *
  have PC := Lib.hid fun W (hW : Below w1.heap.size w1 W) => B1.call hW
  rw [hp] at PC
  try rw [hp]
  have P1 := PC.out w1 (Below.refl _ _)
  have p0 : w1.cell? ⟨p, 0, none⟩ = some (.int .i64 st.kd) := P1.cell 0
  have p1 : w1.cell? ⟨p, 1, none⟩ = some (.int .i64 st.tu.p) := P1.cell 1
  have p2 : w1.cell? ⟨p, 2, none⟩ = some (.bool st.tu.v) := P1.cell 2
  have p3 : w1.cell? ⟨p, 3, none⟩ = some (.int .u64 st.tu.hi) := P1.cell 3
  have p4 : w1.cell? ⟨p, 4, none⟩ = some (.int .u64 st.tu.lo) := P1.cell 4
  have p5 : w1.cell? ⟨p, 5, none⟩ = some (.bool st.tu.v') := P1.cell 5
  have p6 : w1.cell? ⟨p, 6, none⟩ = some (.int .u64 st.tu.hi') := P1.cell 6
  have p7 : w1.cell? ⟨p, 7, none⟩ = some (.int .u64 st.tu.lo') := P1.cell 7
  have p8 : w1.cell? ⟨p, 8, none⟩ = some (.int .i64 st.tu.sp) := P1.cell 8
  have p9 : w1.cell? ⟨p, 9, none⟩ = some (.int .i64 st.tu.dp) := P1.cell 9
  have p10 : w1.cell? ⟨p, 10, none⟩ = some (.int .i64 st.sl) := P1.cell 10
  have p11 : w1.cell? ⟨p, 11, none⟩ = some (.int .i64 st.n) := P1.cell 11
  have p12 : w1.cell? ⟨p, 12, none⟩ = some (.int .i64 st.bk) := P1.cell 12
  have p13 : w1.cell? ⟨p, 13, none⟩ = some (.int .u64 st.low) := P1.cell 13
  have p14 : w1.cell? ⟨p, 14, none⟩ = some (.int .i64 st.bt) := P1.cell 14
  have OP := Lib.hid (twot_go h1.out (fun y hy => by
    rcases hy with h | h
    · have := hK.out y h
      omega
    · omega) st.n)
  have hpp : w.heap.size ≤ p ∧ p < w1.heap.size := by omega
  have hb1' := Lib.hid hb1
  have P1' := Lib.hid P1
  clear P1 B1 hb1
  replace hti := Lib.hid hti
  go_upto_region 20 with (go_at_call 15; (with_reducible refine OP.out.mono ?_); rintro e w2 ⟨B, q, S, rfl, hS, hO, h2, k2⟩)
  have P2 := P1'.out.chg k2 (fun e => e.2 (.inr hpp))
  have hz2 := k2.size
  have hSl : S.length ≤ n := by
    have h5 := hti.out.go hS
    have h6 := live_free h5.1
    rw [h5.2.2.2.1, List.length_append, List.length_reverse] at h6
    omega
  have kA := k2.mono (G := Nk w0 K) (fun y _ e => ⟨e.1, fun h => e.2 (.inl h)⟩)
  have OD := Lib.hid (twot_dgo h2 (fun y hy => by
    rcases hy with (h | h) | h
    · have := hK.out y h
      omega
    · omega
    · omega) st.n hS)
  have hlen : (goEnts s S).length = S.length := by unfold goEnts; rw [List.length_map]
  obtain ⟨ge, hge⟩ : ∃ v, goE s.now st.n = v := ⟨_, rfl⟩
  rw [hge] at OD
  try rw [hge]
  have q11 : w2.cell? ⟨p, 11, none⟩ = some (.int .i64 st.n) := P2.cell 11
  replace hO := Lib.hid hO
  replace kA := Lib.hid kA
  replace hlen := Lib.hid hlen
  clear h2 k2 P2 OP hS hge
  clear p0 p1 p2 p3 p4 p5 p6 p7 p8 p9 p10 p11 p12 p13 p14
  go_upto_region 21 with (go_at_call 29; (with_reducible refine OD.out.mono ?_); rintro e w3 ⟨B', q', rfl, hO', h3, k3⟩)
  have hO3 := OwnA.chg hO.out k3 (fun y hi e => e.2 (.inr (hO.out.block hi)))
  have SA := same19 w3 B B' q q' (goEnts s S) hO3.reads hO'.reads (by rw [hlen.out]; omega)
  rw [hlen.out] at SA
  replace SA := Lib.hid SA
  have kB := k3.mono (G := Nk w0 K) (fun y _ e => ⟨e.1, fun h => e.2 (.inl (.inl h))⟩)
  have HF := Lib.hid fun W (hb : Below w3.heap.size w3 W) => show TwoTo w0 w W g sb n g2 b c K from ⟨_, (h3.call hb).mono (K1' := K) (K2' := K) (fun y hy => .inl (.inl (.inl hy))) (fun y hy => .inl (.inl (.inl hy))), (((Chg.of_below hb1'.out).trans kA.out (fun _ _ h => h)).trans kB (fun _ _ h => h)).trans (Chg.of_below (F := Nk w0 K) hb) (fun _ _ h => h)⟩
  have hgg : (ge == ge) = true := by simp
  clear h3 k3 kB hO3 hO' OD q11
  go_wp2_with (go_at_call 8; (with_reducible refine SA.out.mono ?_); rintro e w4 ⟨rfl, hb4⟩)
  go_ret
  exact ⟨rfl, HF.out _ hb4⟩
end
end Go.Proofs.YtmkknjhalcocmaaGreat

namespace Go.Proofs.YtmkknjhalcocmaaGreat
open Go Go.RowKit Go.Deep Go.Maps Go.ChangeMaps

section
variable {w0 w w' : World} {g sb n g2 : Nat} {b : Int} {c : TCfg} {s : TSt} {K : Nat → Prop}
set_option maxRecDepth 100000 in
set_option maxHeartbeats 16000000 in
theorem one_else (h : TwoT w0 w g sb n g2 b c s s K K) (hK : ∀ y, K y → y < w.heap.size) (st : TStp) (hkd : st.kd ≠ 0 ∧ st.kd ≠ 1 ∧ st.kd ≠ 2 ∧ st.kd ≠ 3 ∧ st.kd ≠ 4 ∧ st.kd ≠ 5) :
    Calls Tryz.prog 7 #[.pointer (some ⟨g, 0, none⟩), .pointer (some ⟨g2, 0, none⟩), st.val] w fun e w' => e = .returned (.bool true) ∧ TwoTo w0 w w' g sb n g2 b c K := by
  have B1 := Blk.new w 39 #[.int .i64 st.kd, .int .i64 st.tu.p, .bool st.tu.v, .int .u64 st.tu.hi, .int .u64 st.tu.lo, .bool st.tu.v', .int .u64 st.tu.hi', .int .u64 st.tu.lo', .int .i64 st.tu.sp, .int .i64 st.tu.dp, .int .i64 st.sl, .int .i64 st.n, .int .i64 st.bk, .int .u64 st.low, .int .i64 st.bt]
  have hb1 := below_alloc (Below.refl w.heap.size w) (.cells #[.int .i64 st.kd, .int .i64 st.tu.p, .bool st.tu.v, .int .u64 st.tu.hi, .int .u64 st.tu.lo, .bool st.tu.v', .int .u64 st.tu.hi', .int .u64 st.tu.lo', .int .i64 st.tu.sp, .int .i64 st.tu.dp, .int .i64 st.sl, .int .i64 st.n, .int .i64 st.bk, .int .u64 st.low, .int .i64 st.bt] 39)
  have h1 := h.call hb1
  have hw0 := h.below.size
  have x0 : (st.kd == 0) = false := by rw [beq_eq_false_iff_ne]; exact hkd.1
  have x1 : (st.kd == 1) = false := by rw [beq_eq_false_iff_ne]; exact hkd.2.1
  have x2 : (st.kd == 2) = false := by rw [beq_eq_false_iff_ne]; exact hkd.2.2.1
  have x3 : (st.kd == 3) = false := by rw [beq_eq_false_iff_ne]; exact hkd.2.2.2.1
  have x4 : (st.kd == 4) = false := by rw [beq_eq_false_iff_ne]; exact hkd.2.2.2.2.1
  have x5 : (st.kd == 5) = false := by rw [beq_eq_false_iff_ne]; exact hkd.2.2.2.2.2
  have hb1' := Lib.hid hb1
  clear h hkd
  replace h1 := Lib.hid h1
  replace hK := Lib.hid hK
  go_enter Tryz.func7, Tryz.ntmps7
  go_upto_region 1 with fail
  have hzz := B1.lt
  obtain ⟨p, hp⟩ : ∃ p, w.heap.size = p := ⟨_, rfl⟩
  generalize w.alloc (.cells #[.int .i64 st.kd, .int .i64 st.tu.p, .bool st.tu.v, .int .u64 st.tu.hi, .int .u64 st.tu.lo, .bool st.tu.v', .int .u64 st.tu.hi', .int .u64 st.tu.lo', .int .i64 st.tu.sp, .int .i64 st.tu.dp, .int .i64 st.sl, .int .i64 st.n, .int .i64 st.bk, .int .u64 st.low, .int .i64 st.bt] 39) = w1 at *
  have PC := Lib.hid fun W (hW : Below w1.heap.size w1 W) => B1.call hW
  rw [hp] at PC
  try rw [hp]
  have P1 := PC.out w1 (Below.refl _ _)
  have p0 : w1.cell? ⟨p, 0, none⟩ = some (.int .i64 st.kd) := P1.cell 0
  have p1 : w1.cell? ⟨p, 1, none⟩ = some (.int .i64 st.tu.p) := P1.cell 1
  have p2 : w1.cell? ⟨p, 2, none⟩ = some (.bool st.tu.v) := P1.cell 2
  have p3 : w1.cell? ⟨p, 3, none⟩ = some (.int .u64 st.tu.hi) := P1.cell 3
  have p4 : w1.cell? ⟨p, 4, none⟩ = some (.int .u64 st.tu.lo) := P1.cell 4
  have p5 : w1.cell? ⟨p, 5, none⟩ = some (.bool st.tu.v') := P1.cell 5
  have p6 : w1.cell? ⟨p, 6, none⟩ = some (.int .u64 st.tu.hi') := P1.cell 6
  have p7 : w1.cell? ⟨p, 7, none⟩ = some (.int .u64 st.tu.lo') := P1.cell 7
  have p8 : w1.cell? ⟨p, 8, none⟩ = some (.int .i64 st.tu.sp) := P1.cell 8
  have p9 : w1.cell? ⟨p, 9, none⟩ = some (.int .i64 st.tu.dp) := P1.cell 9
  have p10 : w1.cell? ⟨p, 10, none⟩ = some (.int .i64 st.sl) := P1.cell 10
  have p11 : w1.cell? ⟨p, 11, none⟩ = some (.int .i64 st.n) := P1.cell 11
  have p12 : w1.cell? ⟨p, 12, none⟩ = some (.int .i64 st.bk) := P1.cell 12
  have p13 : w1.cell? ⟨p, 13, none⟩ = some (.int .u64 st.low) := P1.cell 13
  have p14 : w1.cell? ⟨p, 14, none⟩ = some (.int .i64 st.bt) := P1.cell 14
  have hfin : TwoTo w0 w w1 g sb n g2 b c K := ⟨s, h1.out.mono (fun y hy => .inl hy) (fun y hy => .inl hy), Chg.of_below hb1'.out⟩
  replace hfin := Lib.hid hfin
  clear P1 hb1 B1 hb1' h1
  go_wp2_with fail
  go_ret
  exact ⟨rfl, hfin.out⟩
end
end Go.Proofs.YtmkknjhalcocmaaGreat

namespace Go.Proofs.YtmkknjhalcocmaaGreat
open Go Go.RowKit Go.Deep Go.Maps Go.ChangeMaps

section
variable {w0 w w' : World} {g sb n g2 : Nat} {b : Int} {c : TCfg} {s : TSt} {K : Nat → Prop}
set_option maxRecDepth 100000 in
set_option maxHeartbeats 16000000 in
theorem one_drop (h : TwoT w0 w g sb n g2 b c s s K K) (hK : ∀ y, K y → y < w.heap.size) (st : TStp) (hkd : st.kd = 5) :
    Calls Tryz.prog 7 #[.pointer (some ⟨g, 0, none⟩), .pointer (some ⟨g2, 0, none⟩), st.val] w fun e w' => e = .returned (.bool true) ∧ TwoTo w0 w w' g sb n g2 b c K := by
  have B1 := Blk.new w 39 #[.int .i64 st.kd, .int .i64 st.tu.p, .bool st.tu.v, .int .u64 st.tu.hi, .int .u64 st.tu.lo, .bool st.tu.v', .int .u64 st.tu.hi', .int .u64 st.tu.lo', .int .i64 st.tu.sp, .int .i64 st.tu.dp, .int .i64 st.sl, .int .i64 st.n, .int .i64 st.bk, .int .u64 st.low, .int .i64 st.bt]
  have hb1 := below_alloc (Below.refl w.heap.size w) (.cells #[.int .i64 st.kd, .int .i64 st.tu.p, .bool st.tu.v, .int .u64 st.tu.hi, .int .u64 st.tu.lo, .bool st.tu.v', .int .u64 st.tu.hi', .int .u64 st.tu.lo', .int .i64 st.tu.sp, .int .i64 st.tu.dp, .int .i64 st.sl, .int .i64 st.n, .int .i64 st.bk, .int .u64 st.low, .int .i64 st.bt] 39)
  have h1 := h.call hb1
  have hw0 := h.below.size
  have x0 : (st.kd == 0) = false := by rw [hkd]; rfl
  have x1 : (st.kd == 1) = false := by rw [hkd]; rfl
  have x2 : (st.kd == 2) = false := by rw [hkd]; rfl
  have x3 : (st.kd == 3) = false := by rw [hkd]; rfl
  have x4 : (st.kd == 4) = false := by rw [hkd]; rfl
  have x5 : (st.kd == 5) = true := by rw [hkd]; rfl
  have hn4 : n ≤ 4096 := by
    obtain ⟨_, _, _, _, _, _, k1, -⟩ := h
    exact k1.rng.2.2
  clear h hkd
  replace h1 := Lib.hid h1
  replace hK := Lib.hid hK
  go_enter Tryz.func7, Tryz.ntmps7
  go_upto_region 1 with fail
  have hzz := B1.lt
  obtain ⟨p, hp⟩ : ∃ p, w.heap.size = p := ⟨_, rfl⟩
  generalize w.alloc (.cells #[.int .i64 st.kd, .int .i64 st.tu.p, .bool st.tu.v, .int .u64 st.tu.hi, .int .u64 st.tu.lo, .bool st.tu.v', .int .u64 st.tu.hi', .int .u64 st.tu.lo', .int .i64 st.tu.sp, .int .i64 st.tu.dp, .int .i64 st.sl, .int .i64 st.n, .int .i64 st.bk, .int .u64 st.low, .int .i64 st.bt] 39) = w1 at *
  have PC := Lib.hid fun W (hW : Below w1.heap.size w1 W) => B1.call hW
  rw [hp] at PC
  try rw [hp]
  have P1 := PC.out w1 (Below.refl _ _)
  have p0 : w1.cell? ⟨p, 0, none⟩ = some (.int .i64 st.kd) := P1.cell 0
  have p1 : w1.cell? ⟨p, 1, none⟩ = some (.int .i64 st.tu.p) := P1.cell 1
  have p2 : w1.cell? ⟨p, 2, none⟩ = some (.bool st.tu.v) := P1.cell 2
  have p3 : w1.cell? ⟨p, 3, none⟩ = some (.int .u64 st.tu.hi) := P1.cell 3
  have p4 : w1.cell? ⟨p, 4, none⟩ = some (.int .u64 st.tu.lo) := P1.cell 4
  have p5 : w1.cell? ⟨p, 5, none⟩ = some (.bool st.tu.v') := P1.cell 5
  have p6 : w1.cell? ⟨p, 6, none⟩ = some (.int .u64 st.tu.hi') := P1.cell 6
  have p7 : w1.cell? ⟨p, 7, none⟩ = some (.int .u64 st.tu.lo') := P1.cell 7
  have p8 : w1.cell? ⟨p, 8, none⟩ = some (.int .i64 st.tu.sp) := P1.cell 8
  have p9 : w1.cell? ⟨p, 9, none⟩ = some (.int .i64 st.tu.dp) := P1.cell 9
  have p10 : w1.cell? ⟨p, 10, none⟩ = some (.int .i64 st.sl) := P1.cell 10
  have p11 : w1.cell? ⟨p, 11, none⟩ = some (.int .i64 st.n) := P1.cell 11
  have p12 : w1.cell? ⟨p, 12, none⟩ = some (.int .i64 st.bk) := P1.cell 12
  have p13 : w1.cell? ⟨p, 13, none⟩ = some (.int .u64 st.low) := P1.cell 13
  have p14 : w1.cell? ⟨p, 14, none⟩ = some (.int .i64 st.bt) := P1.cell 14
  have hd : Below w1.heap.size w1 w1.drew := (Below.refl _ _).drew
  have hpp : w.heap.size ≤ p ∧ p < w1.heap.size := by omega
  have h1d := (h1.out.call hd).mono (K1' := New2 w w1 K) (K2' := New2 w w1 K) (fun y hy => .inl hy) (fun y hy => .inl hy)
  have OP := Lib.hid (twot_drop h1d (fun y hy => by
    show y < w1.heap.size
    rcases hy with h | h
    · have := hK.out y h
      omega
    · omega) st.bk)
  have hlen := allL_len s.E (fun x => x.bk == st.bk) n
  have hel : (entsOf s.E (allL s.E (fun x => x.bk == st.bk) n)).length ≤ 1000000 := by unfold entsOf; rw [List.length_map]; omega
  obtain ⟨L, hL⟩ : ∃ L, entsOf s.E (allL s.E (fun x => x.bk == st.bk) n) = L := ⟨_, rfl⟩
  rw [hL] at OP hel
  have hKd : ∀ (w2 : World), w1.drew.heap.size ≤ w2.heap.size → ∀ y, New2 w1.drew w2 (New2 w w1 K) y → y < w2.heap.size := fun w2 hz y hy => by
    have hz' : w1.heap.size ≤ w2.heap.size := hz
    rcases hy with (h | h) | h
    · have := hK.out y h
      omega
    · omega
    · exact h.2
  replace hKd := Lib.hid hKd
  have P1d := Lib.hid (P1.call hd)
  have hb1' := Lib.hid hb1
  have S1 : w1.drew.cell? ⟨p, 12, none⟩ = some (.int .i64 st.bk) := p12
  clear P1 B1 hb1 h1d
  replace hL := Lib.hid hL
  go_upto_region 23 with fail
  clear p0 p1 p2 p3 p4 p5 p6 p7 p8 p9 p10 p11 p12 p13 p14
  go_region_held3 (fun W => W.cell? ⟨p, 12, none⟩ = some (.int .i64 st.bk)) (with_reducible assumption) (first
    | (go_at_call 17; (with_reducible refine OP.out.mono ?_); rintro e w2 ⟨B, q, rfl, hO, h2, k2⟩; have S2 : w2.cell? ⟨p, 12, none⟩ = some (.int .i64 st.bk) := (P1d.out.chg k2 (fun e => e.2 (.inr hpp))).cell 12; have OD := (twot_ddrop h2 (hKd.out w2 k2.size) st.bk); rw [hL.out] at OD)
    | (go_at_call 30; (with_reducible refine OD.mono ?_); rintro e w3 ⟨B', q', rfl, hO', h3, k3⟩; have S3 : w3.cell? ⟨p, 12, none⟩ = some (.int .i64 st.bk) := ((P1d.out.chg k2 (fun e => e.2 (.inr hpp))).chg k3 (fun e => e.2 (.inl (.inr hpp)))).cell 12; have hO3 := OwnA.chg hO k3 (fun y hi e => e.2 (.inr (hO.block hi))); have SA := same19 w3 B B' q q' L hO3.reads hO'.reads hel)
    | (go_at_call 8; (with_reducible refine SA.mono ?_); rintro e w4 ⟨rfl, hb4⟩; have S4 := (hb4.cell (block_lt_of_cell S3)).trans S3))
  have hfin : TwoTo w0 w w4 g sb n g2 b c K := ⟨_, (h3.call hb4).mono (K1' := K) (K2' := K) (fun y hy => .inl (.inl (.inl hy))) (fun y hy => .inl (.inl (.inl hy))), ((((Chg.of_below hb1'.out).trans (Chg.of_below (F := Nk w0 K) hd) (fun _ _ h => h)).trans (k2.mono (G := Nk w0 K) (fun y _ e => ⟨e.1, fun h => e.2 (.inl h)⟩)) (fun _ _ h => h)).trans (k3.mono (G := Nk w0 K) (fun y _ e => ⟨e.1, fun h => e.2 (.inl (.inl h))⟩)) (fun _ _ h => h)).trans (Chg.of_below (F := Nk w0 K) hb4) (fun _ _ h => h)⟩
  replace hfin := Lib.hid hfin
  go_wp2_with fail
  go_ret
  exact ⟨rfl, hfin.out⟩
end
end Go.Proofs.YtmkknjhalcocmaaGreat
