/- maglev: the law MaglevTells, called. -/
import Derived.Test.YtiicgnijiiidcaaMagN
namespace Go.Proofs.Ytiicgnijiiidcaa
open Go Go.RowKit Go.Deep


set_option maxRecDepth 100000 in
set_option maxHeartbeats 16000000 in
theorem maglevTells_big (l : List Bk) (A : Option Addr) (c : Nat) (o : List Bk) (B : Option Addr) (d : Nat) (ka kb : Int) (m : Int) (t : Tup) (w : World) (hr : Reads w w.heap.size 6 A l.length (l.flatMap Bk.cells)) (hl : l.length ≤ 9223372036854775807) (ho : Reads w w.heap.size 6 B o.length (o.flatMap Bk.cells)) (hol : o.length ≤ 9223372036854775807)
    (x1 : t.hi < 18446744073709551616) (x2 : t.lo < 18446744073709551616) (x3 : t.hi' < 18446744073709551616) (x4 : t.lo' < 18446744073709551616) (hm : 251 < m) (hs : sizedB m = true) :
    Calls Try.prog 5 #[.slice A l.length c, .slice B o.length d, .agg #[.int .u64 ka, .int .u64 kb], .int .i64 m, t.val] w fun e w' => e = .returned (.bool true) ∧ Below w.heap.size w w' := by
  obtain ⟨w0, hw0⟩ : ∃ w0, w0 = (w.alloc (.cells #[.int .u64 ka, .int .u64 kb] 25)).alloc (.cells t.cells.toArray 50) := ⟨_, rfl⟩
  have hb0 : Below w.heap.size w w0 := hw0 ▸ below_alloc (below_alloc (Below.refl _ _) _) _
  have hr0 : Reads w0 w0.heap.size 6 A l.length (l.flatMap Bk.cells) := (hr.below hb0).more hb0.size
  have ho0 : Reads w0 w0.heap.size 6 B o.length (o.flatMap Bk.cells) := (ho.below hb0).more hb0.size
  have R1 := Lib.hid (ref24_right l A c _ hr0 hl)
  have R2 := Lib.hid fun n => ref24_right o B d (w0.drewN n) ho0 hol
  have K0 : Blk w0 w.heap.size 25 #[.int .u64 ka, .int .u64 kb] := hw0 ▸ (Blk.new w _ _).alloc _
  have T0 : Blk w0 (w.heap.size + 1) 50 t.cells.toArray := by
    have := Blk.new (w.alloc (.cells #[.int .u64 ka, .int .u64 kb] 25)) 50 t.cells.toArray
    rw [← hw0] at this
    simpa using this
  have SZ := refsize_any m
  rw [hs] at SZ
  replace SZ := Lib.hid SZ
  obtain ⟨tp, v, hi, lo, v', hi', lo', sp, dp⟩ := t
  unfold Tup.val at *
  dsimp only at *
  by_cases h16 : 16 < l.length
  · have e16 : decide ((16 : Int) < (l.length : Int)) = true := by simp; omega
    clear R1 R2 hr0 ho0 K0 T0
    go_enter Try.func5, Try.ntmps5
    go_wp2_with fail
    rw [← hw0]
    clear hw0
    refine (awake29 _).mono ?_
    rintro e w1 ⟨rfl, hb1⟩
    go_wp2_with fail
    go_ret
    exact ⟨rfl, below_chain hb1 hb0⟩
  have e16 : decide ((16 : Int) < (l.length : Int)) = false := by simp; omega
  by_cases h16o : 16 < o.length
  · have e16o : decide ((16 : Int) < (o.length : Int)) = true := by simp; omega
    clear R1 R2 hr0 ho0 K0 T0
    go_enter Try.func5, Try.ntmps5
    go_wp2_with fail
    rw [← hw0]
    clear hw0
    refine (awake29 _).mono ?_
    rintro e w1 ⟨rfl, hb1⟩
    go_wp2_with fail
    go_ret
    exact ⟨rfl, below_chain hb1 hb0⟩
  have e16o : decide ((16 : Int) < (o.length : Int)) = false := by simp; omega
  go_enter Try.func5, Try.ntmps5
  go_wp2_with fail
  rw [← hw0]
  clear hw0
  refine R1.out.mono ?_
  rintro e w00 ⟨r, n0, rfl, rfl, hR⟩
  cases r
  · clear hR
    go_wp2_with (go_at_call 26; (with_reducible refine (awake29 _).mono ?_); rintro e w2 ⟨rfl, hb2⟩)
    go_ret
    exact ⟨rfl, below_chain hb2 (below_drewN hb0 n0)⟩
  have hL := Lib.hid (hR (by trivial))
  clear hR R1
  have Q2 := R2.out n0
  clear R2
  have ho1 : Reads (w0.drewN n0) (w0.drewN n0).heap.size 6 B o.length (o.flatMap Bk.cells) := ho0
  have hr1 : Reads (w0.drewN n0) (w0.drewN n0).heap.size 6 A l.length (l.flatMap Bk.cells) := hr0
  have K1 : Blk (w0.drewN n0) w.heap.size 25 #[.int .u64 ka, .int .u64 kb] := K0
  have T1 : Blk (w0.drewN n0) (w.heap.size + 1) 50 _ := T0
  have hb1 : Below w.heap.size w (w0.drewN n0) := below_drewN hb0 n0
  generalize w0.drewN n0 = w1 at *
  replace Q2 := Lib.hid Q2
  clear hb0 K0 T0 hr0 ho0
  go_wp2_with fail
  refine Q2.out.mono ?_
  rintro e w00 ⟨r, n1, rfl, rfl, hR⟩
  have ho2 : Reads (w1.drewN n1) (w1.drewN n1).heap.size 6 B o.length (o.flatMap Bk.cells) := ho1
  have hr2 : Reads (w1.drewN n1) (w1.drewN n1).heap.size 6 A l.length (l.flatMap Bk.cells) := hr1
  have K2 : Blk (w1.drewN n1) w.heap.size 25 #[.int .u64 ka, .int .u64 kb] := K1
  have T2 : Blk (w1.drewN n1) (w.heap.size + 1) 50 _ := T1
  have hb2 : Below w.heap.size w (w1.drewN n1) := below_drewN hb1 n1
  generalize w1.drewN n1 = w2 at *
  clear Q2 hb1 K1 T1 hr1 ho1
  cases r
  · clear hR
    go_wp2_with (go_at_call 26; (with_reducible refine (awake29 _).mono ?_); rintro e w3 ⟨rfl, hb3⟩)
    go_ret
    exact ⟨rfl, below_chain hb3 hb2⟩
  have hM := Lib.hid (hR (by trivial))
  clear hR
  have k0 := K2.cell 0
  have k1 := K2.cell 1
  simp at k0 k1
  have em : decide ((251 : Int) < m) = true := by simpa using hm
  go_wp2_with fail
  refine (SZ.out _).mono ?_
  rintro e w3 ⟨rfl, rfl⟩
  go_wp2_with fail
  refine (awake29 _).mono ?_
  rintro e w3 ⟨rfl, hb3⟩
  go_wp2_with fail
  go_ret
  exact ⟨rfl, below_chain hb3 hb2⟩

set_option maxRecDepth 100000 in
set_option maxHeartbeats 16000000 in
theorem maglevTells_odd (l : List Bk) (A : Option Addr) (c : Nat) (o : List Bk) (B : Option Addr) (d : Nat) (ka kb : Int) (m : Int) (t : Tup) (w : World) (hr : Reads w w.heap.size 6 A l.length (l.flatMap Bk.cells)) (hl : l.length ≤ 9223372036854775807) (ho : Reads w w.heap.size 6 B o.length (o.flatMap Bk.cells)) (hol : o.length ≤ 9223372036854775807)
    (x1 : t.hi < 18446744073709551616) (x2 : t.lo < 18446744073709551616) (x3 : t.hi' < 18446744073709551616) (x4 : t.lo' < 18446744073709551616) (hm : 251 < m) (hs : sizedB m = false) (he : newE m l.length ≠ 0) :
    Calls Try.prog 5 #[.slice A l.length c, .slice B o.length d, .agg #[.int .u64 ka, .int .u64 kb], .int .i64 m, t.val] w fun e w' => e = .returned (.bool true) ∧ Below w.heap.size w w' := by
  obtain ⟨w0, hw0⟩ : ∃ w0, w0 = (w.alloc (.cells #[.int .u64 ka, .int .u64 kb] 25)).alloc (.cells t.cells.toArray 50) := ⟨_, rfl⟩
  have hb0 : Below w.heap.size w w0 := hw0 ▸ below_alloc (below_alloc (Below.refl _ _) _) _
  have hr0 : Reads w0 w0.heap.size 6 A l.length (l.flatMap Bk.cells) := (hr.below hb0).more hb0.size
  have ho0 : Reads w0 w0.heap.size 6 B o.length (o.flatMap Bk.cells) := (ho.below hb0).more hb0.size
  have R1 := Lib.hid (ref24_right l A c _ hr0 hl)
  have R2 := Lib.hid fun n => ref24_right o B d (w0.drewN n) ho0 hol
  have K0 : Blk w0 w.heap.size 25 #[.int .u64 ka, .int .u64 kb] := hw0 ▸ (Blk.new w _ _).alloc _
  have T0 : Blk w0 (w.heap.size + 1) 50 t.cells.toArray := by
    have := Blk.new (w.alloc (.cells #[.int .u64 ka, .int .u64 kb] 25)) 50 t.cells.toArray
    rw [← hw0] at this
    simpa using this
  have SZ := refsize_any m
  rw [hs] at SZ
  replace SZ := Lib.hid SZ
  have NR := fun W => refnew_none l A c ka kb m W he
  obtain ⟨E, hE⟩ : ∃ E, newE m l.length = E := ⟨_, rfl⟩
  rw [hE] at NR he
  have he2 : (E != 0) = true := by simpa using he
  replace NR := Lib.hid NR
  replace hE := Lib.hid hE
  obtain ⟨tp, v, hi, lo, v', hi', lo', sp, dp⟩ := t
  unfold Tup.val at *
  dsimp only at *
  by_cases h16 : 16 < l.length
  · have e16 : decide ((16 : Int) < (l.length : Int)) = true := by simp; omega
    clear R1 R2 hr0 ho0 K0 T0
    go_enter Try.func5, Try.ntmps5
    go_wp2_with fail
    rw [← hw0]
    clear hw0
    refine (awake29 _).mono ?_
    rintro e w1 ⟨rfl, hb1⟩
    go_wp2_with fail
    go_ret
    exact ⟨rfl, below_chain hb1 hb0⟩
  have e16 : decide ((16 : Int) < (l.length : Int)) = false := by simp; omega
  by_cases h16o : 16 < o.length
  · have e16o : decide ((16 : Int) < (o.length : Int)) = true := by simp; omega
    clear R1 R2 hr0 ho0 K0 T0
    go_enter Try.func5, Try.ntmps5
    go_wp2_with fail
    rw [← hw0]
    clear hw0
    refine (awake29 _).mono ?_
    rintro e w1 ⟨rfl, hb1⟩
    go_wp2_with fail
    go_ret
    exact ⟨rfl, below_chain hb1 hb0⟩
  have e16o : decide ((16 : Int) < (o.length : Int)) = false := by simp; omega
  go_enter Try.func5, Try.ntmps5
  go_wp2_with fail
  rw [← hw0]
  clear hw0
  refine R1.out.mono ?_
  rintro e w00 ⟨r, n0, rfl, rfl, hR⟩
  cases r
  · clear hR
    go_wp2_with (go_at_call 26; (with_reducible refine (awake29 _).mono ?_); rintro e w2 ⟨rfl, hb2⟩)
    go_ret
    exact ⟨rfl, below_chain hb2 (below_drewN hb0 n0)⟩
  have hL := Lib.hid (hR (by trivial))
  clear hR R1
  have Q2 := R2.out n0
  clear R2
  have ho1 : Reads (w0.drewN n0) (w0.drewN n0).heap.size 6 B o.length (o.flatMap Bk.cells) := ho0
  have hr1 : Reads (w0.drewN n0) (w0.drewN n0).heap.size 6 A l.length (l.flatMap Bk.cells) := hr0
  have K1 : Blk (w0.drewN n0) w.heap.size 25 #[.int .u64 ka, .int .u64 kb] := K0
  have T1 : Blk (w0.drewN n0) (w.heap.size + 1) 50 _ := T0
  have hb1 : Below w.heap.size w (w0.drewN n0) := below_drewN hb0 n0
  generalize w0.drewN n0 = w1 at *
  replace Q2 := Lib.hid Q2
  clear hb0 K0 T0 hr0 ho0
  go_wp2_with fail
  refine Q2.out.mono ?_
  rintro e w00 ⟨r, n1, rfl, rfl, hR⟩
  have ho2 : Reads (w1.drewN n1) (w1.drewN n1).heap.size 6 B o.length (o.flatMap Bk.cells) := ho1
  have hr2 : Reads (w1.drewN n1) (w1.drewN n1).heap.size 6 A l.length (l.flatMap Bk.cells) := hr1
  have K2 : Blk (w1.drewN n1) w.heap.size 25 #[.int .u64 ka, .int .u64 kb] := K1
  have T2 : Blk (w1.drewN n1) (w.heap.size + 1) 50 _ := T1
  have hb2 : Below w.heap.size w (w1.drewN n1) := below_drewN hb1 n1
  generalize w1.drewN n1 = w2 at *
  clear Q2 hb1 K1 T1 hr1 ho1
  cases r
  · clear hR
    go_wp2_with (go_at_call 26; (with_reducible refine (awake29 _).mono ?_); rintro e w3 ⟨rfl, hb3⟩)
    go_ret
    exact ⟨rfl, below_chain hb3 hb2⟩
  have hM := Lib.hid (hR (by trivial))
  clear hR
  have k0 := K2.cell 0
  have k1 := K2.cell 1
  simp at k0 k1
  have NN := fun W => new_none 0 l A c ka kb m W (by omega) (by rw [hE.out]; exact he)
  rw [hE.out] at NN
  replace NN := Lib.hid NN
  replace he := Lib.hid he
  have em : decide ((251 : Int) < m) = true := by simpa using hm
  go_wp2_with fail
  refine (SZ.out _).mono ?_
  rintro e w3 ⟨rfl, rfl⟩
  go_wp2_with fail
  refine (NN.out _).mono ?_
  rintro e w3 ⟨rfl, hb3⟩
  have hbA := below_chain hb3 hb2
  have K3 := K2.call hb3
  clear hb3 hb2 K2 k0 k1 T2 hr2 ho2
  have k0 := K3.cell 0
  have k1 := K3.cell 1
  simp at k0 k1
  go_wp2_with fail
  refine (NR.out _).mono ?_
  rintro e w4 ⟨rfl, hb4⟩
  have hbB := below_chain hb4 hbA
  clear hb4 hbA K3 k0 k1
  go_wp2_with fail
  refine (awake29 _).mono ?_
  rintro e w5 ⟨rfl, hb5⟩
  go_wp2_with fail
  go_ret
  exact ⟨rfl, below_chain hb5 hbB⟩

set_option maxRecDepth 100000 in
set_option maxHeartbeats 16000000 in
theorem maglevTells_none (l : List Bk) (A : Option Addr) (c : Nat) (o : List Bk) (B : Option Addr) (d : Nat) (ka kb : Int) (m : Int) (t : Tup) (w : World) (hr : Reads w w.heap.size 6 A l.length (l.flatMap Bk.cells)) (hl : l.length ≤ 9223372036854775807) (ho : Reads w w.heap.size 6 B o.length (o.flatMap Bk.cells)) (hol : o.length ≤ 9223372036854775807)
    (x1 : t.hi < 18446744073709551616) (x2 : t.lo < 18446744073709551616) (x3 : t.hi' < 18446744073709551616) (x4 : t.lo' < 18446744073709551616) (hm : m ≤ 251) (he : newE m l.length ≠ 0) :
    Calls Try.prog 5 #[.slice A l.length c, .slice B o.length d, .agg #[.int .u64 ka, .int .u64 kb], .int .i64 m, t.val] w fun e w' => e = .returned (.bool true) ∧ Below w.heap.size w w' := by
  obtain ⟨w0, hw0⟩ : ∃ w0, w0 = (w.alloc (.cells #[.int .u64 ka, .int .u64 kb] 25)).alloc (.cells t.cells.toArray 50) := ⟨_, rfl⟩
  have hb0 : Below w.heap.size w w0 := hw0 ▸ below_alloc (below_alloc (Below.refl _ _) _) _
  have hr0 : Reads w0 w0.heap.size 6 A l.length (l.flatMap Bk.cells) := (hr.below hb0).more hb0.size
  have ho0 : Reads w0 w0.heap.size 6 B o.length (o.flatMap Bk.cells) := (ho.below hb0).more hb0.size
  have R1 := Lib.hid (ref24_right l A c _ hr0 hl)
  have R2 := Lib.hid fun n => ref24_right o B d (w0.drewN n) ho0 hol
  have K0 : Blk w0 w.heap.size 25 #[.int .u64 ka, .int .u64 kb] := hw0 ▸ (Blk.new w _ _).alloc _
  have T0 : Blk w0 (w.heap.size + 1) 50 t.cells.toArray := by
    have := Blk.new (w.alloc (.cells #[.int .u64 ka, .int .u64 kb] 25)) 50 t.cells.toArray
    rw [← hw0] at this
    simpa using this
  have NR := fun W => refnew_none l A c ka kb m W he
  obtain ⟨E, hE⟩ : ∃ E, newE m l.length = E := ⟨_, rfl⟩
  rw [hE] at NR he
  have he2 : (E != 0) = true := by simpa using he
  replace NR := Lib.hid NR
  replace hE := Lib.hid hE
  obtain ⟨tp, v, hi, lo, v', hi', lo', sp, dp⟩ := t
  unfold Tup.val at *
  dsimp only at *
  by_cases h16 : 16 < l.length
  · have e16 : decide ((16 : Int) < (l.length : Int)) = true := by simp; omega
    clear R1 R2 hr0 ho0 K0 T0
    go_enter Try.func5, Try.ntmps5
    go_wp2_with fail
    rw [← hw0]
    clear hw0
    refine (awake29 _).mono ?_
    rintro e w1 ⟨rfl, hb1⟩
    go_wp2_with fail
    go_ret
    exact ⟨rfl, below_chain hb1 hb0⟩
  have e16 : decide ((16 : Int) < (l.length : Int)) = false := by simp; omega
  by_cases h16o : 16 < o.length
  · have e16o : decide ((16 : Int) < (o.length : Int)) = true := by simp; omega
    clear R1 R2 hr0 ho0 K0 T0
    go_enter Try.func5, Try.ntmps5
    go_wp2_with fail
    rw [← hw0]
    clear hw0
    refine (awake29 _).mono ?_
    rintro e w1 ⟨rfl, hb1⟩
    go_wp2_with fail
    go_ret
    exact ⟨rfl, below_chain hb1 hb0⟩
  have e16o : decide ((16 : Int) < (o.length : Int)) = false := by simp; omega
  go_enter Try.func5, Try.ntmps5
  go_wp2_with fail
  rw [← hw0]
  clear hw0
  refine R1.out.mono ?_
  rintro e w00 ⟨r, n0, rfl, rfl, hR⟩
  cases r
  · clear hR
    go_wp2_with (go_at_call 26; (with_reducible refine (awake29 _).mono ?_); rintro e w2 ⟨rfl, hb2⟩)
    go_ret
    exact ⟨rfl, below_chain hb2 (below_drewN hb0 n0)⟩
  have hL := Lib.hid (hR (by trivial))
  clear hR R1
  have Q2 := R2.out n0
  clear R2
  have ho1 : Reads (w0.drewN n0) (w0.drewN n0).heap.size 6 B o.length (o.flatMap Bk.cells) := ho0
  have hr1 : Reads (w0.drewN n0) (w0.drewN n0).heap.size 6 A l.length (l.flatMap Bk.cells) := hr0
  have K1 : Blk (w0.drewN n0) w.heap.size 25 #[.int .u64 ka, .int .u64 kb] := K0
  have T1 : Blk (w0.drewN n0) (w.heap.size + 1) 50 _ := T0
  have hb1 : Below w.heap.size w (w0.drewN n0) := below_drewN hb0 n0
  generalize w0.drewN n0 = w1 at *
  replace Q2 := Lib.hid Q2
  clear hb0 K0 T0 hr0 ho0
  go_wp2_with fail
  refine Q2.out.mono ?_
  rintro e w00 ⟨r, n1, rfl, rfl, hR⟩
  have ho2 : Reads (w1.drewN n1) (w1.drewN n1).heap.size 6 B o.length (o.flatMap Bk.cells) := ho1
  have hr2 : Reads (w1.drewN n1) (w1.drewN n1).heap.size 6 A l.length (l.flatMap Bk.cells) := hr1
  have K2 : Blk (w1.drewN n1) w.heap.size 25 #[.int .u64 ka, .int .u64 kb] := K1
  have T2 : Blk (w1.drewN n1) (w.heap.size + 1) 50 _ := T1
  have hb2 : Below w.heap.size w (w1.drewN n1) := below_drewN hb1 n1
  generalize w1.drewN n1 = w2 at *
  clear Q2 hb1 K1 T1 hr1 ho1
  cases r
  · clear hR
    go_wp2_with (go_at_call 26; (with_reducible refine (awake29 _).mono ?_); rintro e w3 ⟨rfl, hb3⟩)
    go_ret
    exact ⟨rfl, below_chain hb3 hb2⟩
  have hM := Lib.hid (hR (by trivial))
  clear hR
  have k0 := K2.cell 0
  have k1 := K2.cell 1
  simp at k0 k1
  have NN := fun W => new_none 0 l A c ka kb m W (by omega) (by rw [hE.out]; exact he)
  rw [hE.out] at NN
  replace NN := Lib.hid NN
  replace he := Lib.hid he
  have em : decide ((251 : Int) < m) = false := by simp; omega
  go_wp2_with fail
  refine (NN.out _).mono ?_
  rintro e w3 ⟨rfl, hb3⟩
  have hbA := below_chain hb3 hb2
  have K3 := K2.call hb3
  clear hb3 hb2 K2 k0 k1 T2 hr2 ho2
  have k0 := K3.cell 0
  have k1 := K3.cell 1
  simp at k0 k1
  go_wp2_with fail
  refine (NR.out _).mono ?_
  rintro e w4 ⟨rfl, hb4⟩
  have hbB := below_chain hb4 hbA
  clear hb4 hbA K3 k0 k1
  go_wp2_with fail
  refine (awake29 _).mono ?_
  rintro e w5 ⟨rfl, hb5⟩
  go_wp2_with fail
  go_ret
  exact ⟨rfl, below_chain hb5 hbB⟩

set_option maxRecDepth 100000 in
set_option maxHeartbeats 16000000 in
theorem maglevTells_less (l : List Bk) (A : Option Addr) (c : Nat) (o : List Bk) (B : Option Addr) (d : Nat) (ka kb : Int) (m : Nat) (t : Tup) (w : World) (hr : Reads w w.heap.size 6 A l.length (l.flatMap Bk.cells)) (hl : l.length ≤ 9223372036854775807) (ho : Reads w w.heap.size 6 B o.length (o.flatMap Bk.cells)) (hol : o.length ≤ 9223372036854775807)
    (x1 : t.hi < 18446744073709551616) (x2 : t.lo < 18446744073709551616) (x3 : t.hi' < 18446744073709551616) (x4 : t.lo' < 18446744073709551616) (hm : m = 13 ∨ m = 251) (h0 : 0 < l.length) (hlm0 : l.length ≤ m) (he : newE m o.length ≠ 0) :
    Calls Try.prog 5 #[.slice A l.length c, .slice B o.length d, .agg #[.int .u64 ka, .int .u64 kb], .int .i64 (m : Int), t.val] w fun e w' => e = .returned (.bool true) ∧ Below w.heap.size w w' := by
  obtain ⟨w0, hw0⟩ : ∃ w0, w0 = (w.alloc (.cells #[.int .u64 ka, .int .u64 kb] 25)).alloc (.cells t.cells.toArray 50) := ⟨_, rfl⟩
  have hb0 : Below w.heap.size w w0 := hw0 ▸ below_alloc (below_alloc (Below.refl _ _) _) _
  have hr0 : Reads w0 w0.heap.size 6 A l.length (l.flatMap Bk.cells) := (hr.below hb0).more hb0.size
  have ho0 : Reads w0 w0.heap.size 6 B o.length (o.flatMap Bk.cells) := (ho.below hb0).more hb0.size
  have R1 := Lib.hid (ref24_right l A c _ hr0 hl)
  have R2 := Lib.hid fun n => ref24_right o B d (w0.drewN n) ho0 hol
  have K0 : Blk w0 w.heap.size 25 #[.int .u64 ka, .int .u64 kb] := hw0 ▸ (Blk.new w _ _).alloc _
  have T0 : Blk w0 (w.heap.size + 1) 50 t.cells.toArray := by
    have := Blk.new (w.alloc (.cells #[.int .u64 ka, .int .u64 kb] 25)) 50 t.cells.toArray
    rw [← hw0] at this
    simpa using this
  have PI := fun T => pickI_mem ka kb T t
  generalize hpi : (fun T => pickI ka kb T t) = pI at *
  have PK : ∀ (g : Nat) (W : World) (T : List Int), TabAt W g ka kb T → 0 < T.length → T.length ≤ 65536 → Calls Try.prog 29 #[.pointer (some ⟨g, 0, none⟩), t.val] W fun e w' => e = .returned (.tuple #[.int .i64 (pI T), .bool true]) ∧ Below W.heap.size W w' := by
    intro g W T h h1 h2; rw [← hpi]; exact pick_any t h h1 h2
  have PR : ∀ (g : Nat) (W : World) (T : List Int), PlAt W g T.length T → 0 < T.length → T.length ≤ 65536 → Calls Try.prog 32 #[.slice (some ⟨g, 0, none⟩) T.length T.length, .agg #[.int .u64 ka, .int .u64 kb], t.val] W fun e w' => e = .returned (.int .i64 (pI T)) ∧ Below W.heap.size W w' := by
    intro g W T h h1 h2; rw [← hpi]; exact refpick_any ka kb t h h1 h2 x1 x2 x3 x4
  clear PI hpi x1 x2 x3 x4
  replace PK := Lib.hid PK
  replace PR := Lib.hid PR
  have NR := fun W => refnew_none o B d ka kb m W he
  obtain ⟨E, hE⟩ : ∃ E, newE m o.length = E := ⟨_, rfl⟩
  rw [hE] at NR he
  have he2 : (E != 0) = true := by simpa using he
  have he3 : (E == 0) = false := by simpa using he
  replace NR := Lib.hid NR
  replace hE := Lib.hid hE
  obtain ⟨tp, v, hi, lo, v', hi', lo', sp, dp⟩ := t
  unfold Tup.val at *
  dsimp only at *
  by_cases h16 : 16 < l.length
  · have e16 : decide ((16 : Int) < (l.length : Int)) = true := by simp; omega
    clear R1 R2 hr0 ho0 K0 T0
    go_enter Try.func5, Try.ntmps5
    go_wp2_with fail
    rw [← hw0]
    clear hw0
    refine (awake29 _).mono ?_
    rintro e w1 ⟨rfl, hb1⟩
    go_wp2_with fail
    go_ret
    exact ⟨rfl, below_chain hb1 hb0⟩
  have e16 : decide ((16 : Int) < (l.length : Int)) = false := by simp; omega
  by_cases h16o : 16 < o.length
  · have e16o : decide ((16 : Int) < (o.length : Int)) = true := by simp; omega
    clear R1 R2 hr0 ho0 K0 T0
    go_enter Try.func5, Try.ntmps5
    go_wp2_with fail
    rw [← hw0]
    clear hw0
    refine (awake29 _).mono ?_
    rintro e w1 ⟨rfl, hb1⟩
    go_wp2_with fail
    go_ret
    exact ⟨rfl, below_chain hb1 hb0⟩
  have e16o : decide ((16 : Int) < (o.length : Int)) = false := by simp; omega
  go_enter Try.func5, Try.ntmps5
  go_wp2_with fail
  rw [← hw0]
  clear hw0
  refine R1.out.mono ?_
  rintro e w00 ⟨r, n0, rfl, rfl, hR⟩
  cases r
  · clear hR
    go_wp2_with (go_at_call 26; (with_reducible refine (awake29 _).mono ?_); rintro e w2 ⟨rfl, hb2⟩)
    go_ret
    exact ⟨rfl, below_chain hb2 (below_drewN hb0 n0)⟩
  have hL := Lib.hid (hR (by trivial))
  clear hR R1
  have Q2 := R2.out n0
  clear R2
  have ho1 : Reads (w0.drewN n0) (w0.drewN n0).heap.size 6 B o.length (o.flatMap Bk.cells) := ho0
  have hr1 : Reads (w0.drewN n0) (w0.drewN n0).heap.size 6 A l.length (l.flatMap Bk.cells) := hr0
  have K1 : Blk (w0.drewN n0) w.heap.size 25 #[.int .u64 ka, .int .u64 kb] := K0
  have T1 : Blk (w0.drewN n0) (w.heap.size + 1) 50 _ := T0
  have hb1 : Below w.heap.size w (w0.drewN n0) := below_drewN hb0 n0
  generalize w0.drewN n0 = w1 at *
  replace Q2 := Lib.hid Q2
  clear hb0 K0 T0 hr0 ho0
  go_wp2_with fail
  refine Q2.out.mono ?_
  rintro e w00 ⟨r, n1, rfl, rfl, hR⟩
  have ho2 : Reads (w1.drewN n1) (w1.drewN n1).heap.size 6 B o.length (o.flatMap Bk.cells) := ho1
  have hr2 : Reads (w1.drewN n1) (w1.drewN n1).heap.size 6 A l.length (l.flatMap Bk.cells) := hr1
  have K2 : Blk (w1.drewN n1) w.heap.size 25 #[.int .u64 ka, .int .u64 kb] := K1
  have T2 : Blk (w1.drewN n1) (w.heap.size + 1) 50 _ := T1
  have hb2 : Below w.heap.size w (w1.drewN n1) := below_drewN hb1 n1
  generalize w1.drewN n1 = w2 at *
  clear Q2 hb1 K1 T1 hr1 ho1
  cases r
  · clear hR
    go_wp2_with (go_at_call 26; (with_reducible refine (awake29 _).mono ?_); rintro e w3 ⟨rfl, hb3⟩)
    go_ret
    exact ⟨rfl, below_chain hb3 hb2⟩
  have hM := Lib.hid (hR (by trivial))
  clear hR
  have k0 := K2.cell 0
  have k1 := K2.cell 1
  simp at k0 k1
  have NN := fun W => new_none 0 o B d ka kb m W (by omega) (by rw [hE.out]; exact he)
  rw [hE.out] at NN
  replace NN := Lib.hid NN
  replace he := Lib.hid he
  have hmb : m ≤ 251 := by omega
  have em : decide ((251 : Int) < (m : Int)) = false := by simp; omega
  have hlm : l.length ≤ m := by omega
  have hids := bkRight_ids hL.out
  have hTl := tableOf_len (ka := ka) (kb := kb) hm (l := l.map Bk.id) (by rw [List.length_map]; exact h0) (bkRight_ne hL.out)
  have N1 := fun W hr => new_some 0 l A c ka kb m W hr hm h0 hlm hids
  have N2 := fun W hr => refnew_some l A c ka kb m W hr hm h0 hlm hids
  generalize tableOf ka kb m (l.map Bk.id) = T at *
  have PK1 := fun g W h => PK.out g W T h (by omega) (by omega)
  have PR1 := fun g W h => PR.out g W T h (by omega) (by omega)
  have PL := fun g W h => places_any (w := W) (g := g) (ka := ka) (kb := kb) (pl := T) h (by omega) (by omega)
  have SI := fun A B c d W N ha hb => sameInts_any A B c d T T W N ha hb (by omega) (by omega)
  have hsl : sameL T T = true := by unfold sameL; simp
  rw [hsl] at SI
  have MS := fun W g h => moved_any (w := W) (g := g) (g2 := g) (p := T) (q := T) (ka := ka) (kb := kb) (ka2 := ka) (kb2 := kb) h h (by omega) (by omega) rfl
  rw [mvC_self] at MS
  rw [hTl] at SI PL PR1
  obtain ⟨x, hx⟩ : ∃ x, pI T = x := ⟨_, rfl⟩
  rw [hx] at PK1 PR1
  replace N1 := Lib.hid N1
  replace N2 := Lib.hid N2
  replace PK1 := Lib.hid PK1
  replace PR1 := Lib.hid PR1
  replace PL := Lib.hid PL
  replace SI := Lib.hid SI
  replace MS := Lib.hid MS
  replace hTl := Lib.hid hTl
  replace hx := Lib.hid hx
  replace hm := Lib.hid hm
  clear PK PR hsl hids
  go_wp2_with fail
  refine (N1.out _ hr2).mono ?_
  rintro e w3 ⟨g1, rfl, hT3, -, hb3⟩
  have hbA := below_chain hb3 hb2
  have K3 := K2.call hb3
  have T3 := T2.call hb3
  have hr3 := (hr2.below hb3).more hb3.size
  have ho3 := (ho2.below hb3).more hb3.size
  clear hb3 hb2 K2 k0 k1 T2 hr2 ho2 N1
  have k0 := K3.cell 0
  have k1 := K3.cell 1
  simp at k0 k1
  go_wp2_with fail
  refine (N2.out _ hr3).mono ?_
  rintro e w4 ⟨gp, rfl, hP4, -, hb4⟩
  have hbB := below_chain hb4 hbA
  have hT4 := hT3.keep hb4
  have K4 := K3.call hb4
  have T4 := T3.call hb4
  have ho4 := (ho3.below hb4).more hb4.size
  clear hb4 hbA K3 T3 hr3 ho3 k0 k1 hT3 N2
  have c0 := T4.cell 0
  have c1 := T4.cell 1
  have c2 := T4.cell 2
  have c3 := T4.cell 3
  have c4 := T4.cell 4
  have c5 := T4.cell 5
  have c6 := T4.cell 6
  have c7 := T4.cell 7
  have c8 := T4.cell 8
  simp only [List.getElem?_toArray, List.getElem?_cons_zero, List.getElem?_cons_succ] at c0 c1 c2 c3 c4 c5 c6 c7 c8
  go_wp2_with fail
  refine (PK1.out g1 _ hT4).mono ?_
  rintro e w5 ⟨rfl, hb5⟩
  have hbC := below_chain hb5 hbB
  have hT5 := hT4.keep hb5
  have hP5 : PlAt w5 gp m T := hP4.of_block (hb5.block gp hP4.lt)
  have K5 := K4.call hb5
  have T5 := T4.call hb5
  have ho5 := (ho4.below hb5).more hb5.size
  clear hb5 hbB K4 T4 ho4 c0 c1 c2 c3 c4 c5 c6 c7 c8 hT4 hP4 PK1
  go_wp2_with fail
  refine (PL.out g1 _ hT5).mono ?_
  rintro e w6 ⟨A6, c6, rfl, hr6, hb6⟩
  have hbD := below_chain hb6 hbC
  have hT6 := hT5.keep hb6
  have hP6 : PlAt w6 gp m T := hP5.of_block (hb6.block gp hP5.lt)
  have K6 := K5.call hb6
  have T6 := T5.call hb6
  have ho6 := (ho5.below hb6).more hb6.size
  clear hb6 hbC K5 T5 ho5 hT5 hP5 PL
  have hrp : Reads w6 w6.heap.size 1 (some ⟨gp, 0, none⟩) m (T.map (.int .i64)) := by
    have h := PlAt.reads (w := w6) (g := gp) (pl := T) (by rw [hTl.out]; exact hP6)
    rwa [hTl.out] at h
  go_wp2_with fail
  refine (SI.out _ _ _ _ _ w6.heap.size hr6 hrp).mono ?_
  rintro e w66 ⟨rfl, n6, rfl⟩
  have hbE : Below w.heap.size w (w6.drewN n6) := below_drewN hbD n6
  have hT7 : TabAt (w6.drewN n6) g1 ka kb T := hT6
  have hP7 : PlAt (w6.drewN n6) gp m T := hP6
  have K7 : Blk (w6.drewN n6) w.heap.size 25 #[.int .u64 ka, .int .u64 kb] := K6
  have T7 : Blk (w6.drewN n6) (w.heap.size + 1) 50 _ := T6
  have ho7 : Reads (w6.drewN n6) (w6.drewN n6).heap.size 6 B o.length (o.flatMap Bk.cells) := ho6
  generalize w6.drewN n6 = w7 at *
  clear hbD K6 T6 ho6 hT6 hP6 hrp hr6 SI
  have k0 := K7.cell 0
  have k1 := K7.cell 1
  simp at k0 k1
  have c0 := T7.cell 0
  have c1 := T7.cell 1
  have c2 := T7.cell 2
  have c3 := T7.cell 3
  have c4 := T7.cell 4
  have c5 := T7.cell 5
  have c6 := T7.cell 6
  have c7 := T7.cell 7
  have c8 := T7.cell 8
  simp only [List.getElem?_toArray, List.getElem?_cons_zero, List.getElem?_cons_succ] at c0 c1 c2 c3 c4 c5 c6 c7 c8
  go_wp2_with fail
  refine (PR1.out gp _ hP7).mono ?_
  rintro e w8 ⟨rfl, hb8⟩
  have hbF := below_chain hb8 hbE
  have hT8 := hT7.keep hb8
  have hP8 : PlAt w8 gp m T := hP7.of_block (hb8.block gp hP7.lt)
  have K8 := K7.call hb8
  have ho8 := (ho7.below hb8).more hb8.size
  clear hb8 hbE K7 T7 ho7 c0 c1 c2 c3 c4 c5 c6 c7 c8 hT7 hP7 PR1 k0 k1
  have k0 := K8.cell 0
  have k1 := K8.cell 1
  simp at k0 k1
  go_wp2_with fail
  refine (NN.out _).mono ?_
  rintro e w9 ⟨rfl, hb9⟩
  have hbG := below_chain hb9 hbF
  have hT9 := hT8.keep hb9
  have K9 := K8.call hb9
  clear hb9 hbF K8 ho8 hT8 hP8 k0 k1
  have k0 := K9.cell 0
  have k1 := K9.cell 1
  simp at k0 k1
  go_wp2_with fail
  refine (NR.out _).mono ?_
  rintro e w10 ⟨rfl, hb10⟩
  have hbH := below_chain hb10 hbG
  have hT10 := hT9.keep hb10
  clear hb10 hbG K9 hT9 k0 k1
  have hmi : (0 : Int) < (m : Int) := by omega
  go_wp2_with fail
  refine wp_loop_rounds 1 ?_
  rw [rounds_succ]
  go_wp2_with fail
  refine (moved_right hT10 (by rw [hTl.out]; omega)).mono ?_
  rintro e w11 ⟨rfl, hb11⟩
  have hbI := below_chain hb11 hbH
  have hT11 := hT10.keep hb11
  clear hb11 hbH hT10
  go_wp2_with fail
  refine (MS.out _ g1 hT11).mono ?_
  rintro e w12 ⟨rfl, hb12⟩
  have hbJ := below_chain hb12 hbI
  clear hb12 hbI hT11
  go_wp2_with fail
  refine (awake29 _).mono ?_
  rintro e w13 ⟨rfl, hb13⟩
  go_wp2_with fail
  go_ret
  exact ⟨rfl, below_chain hb13 hbJ⟩

set_option maxRecDepth 100000 in
set_option maxHeartbeats 16000000 in
theorem maglevTells_both (l : List Bk) (A : Option Addr) (c : Nat) (o : List Bk) (B : Option Addr) (d : Nat) (ka kb : Int) (m : Nat) (t : Tup) (w : World) (hr : Reads w w.heap.size 6 A l.length (l.flatMap Bk.cells)) (hl : l.length ≤ 9223372036854775807) (ho : Reads w w.heap.size 6 B o.length (o.flatMap Bk.cells)) (hol : o.length ≤ 9223372036854775807)
    (x1 : t.hi < 18446744073709551616) (x2 : t.lo < 18446744073709551616) (x3 : t.hi' < 18446744073709551616) (x4 : t.lo' < 18446744073709551616) (hm : m = 13 ∨ m = 251) (h0 : 0 < l.length) (hlm0 : l.length ≤ m) (h0o : 0 < o.length) (hom0 : o.length ≤ m) :
    Calls Try.prog 5 #[.slice A l.length c, .slice B o.length d, .agg #[.int .u64 ka, .int .u64 kb], .int .i64 (m : Int), t.val] w fun e w' => e = .returned (.bool true) ∧ Below w.heap.size w w' := by
  obtain ⟨w0, hw0⟩ : ∃ w0, w0 = (w.alloc (.cells #[.int .u64 ka, .int .u64 kb] 25)).alloc (.cells t.cells.toArray 50) := ⟨_, rfl⟩
  have hb0 : Below w.heap.size w w0 := hw0 ▸ below_alloc (below_alloc (Below.refl _ _) _) _
  have hr0 : Reads w0 w0.heap.size 6 A l.length (l.flatMap Bk.cells) := (hr.below hb0).more hb0.size
  have ho0 : Reads w0 w0.heap.size 6 B o.length (o.flatMap Bk.cells) := (ho.below hb0).more hb0.size
  have R1 := Lib.hid (ref24_right l A c _ hr0 hl)
  have R2 := Lib.hid fun n => ref24_right o B d (w0.drewN n) ho0 hol
  have K0 : Blk w0 w.heap.size 25 #[.int .u64 ka, .int .u64 kb] := hw0 ▸ (Blk.new w _ _).alloc _
  have T0 : Blk w0 (w.heap.size + 1) 50 t.cells.toArray := by
    have := Blk.new (w.alloc (.cells #[.int .u64 ka, .int .u64 kb] 25)) 50 t.cells.toArray
    rw [← hw0] at this
    simpa using this
  have PI := fun T => pickI_mem ka kb T t
  generalize hpi : (fun T => pickI ka kb T t) = pI at *
  have PK : ∀ (g : Nat) (W : World) (T : List Int), TabAt W g ka kb T → 0 < T.length → T.length ≤ 65536 → Calls Try.prog 29 #[.pointer (some ⟨g, 0, none⟩), t.val] W fun e w' => e = .returned (.tuple #[.int .i64 (pI T), .bool true]) ∧ Below W.heap.size W w' := by
    intro g W T h h1 h2; rw [← hpi]; exact pick_any t h h1 h2
  have PR : ∀ (g : Nat) (W : World) (T : List Int), PlAt W g T.length T → 0 < T.length → T.length ≤ 65536 → Calls Try.prog 32 #[.slice (some ⟨g, 0, none⟩) T.length T.length, .agg #[.int .u64 ka, .int .u64 kb], t.val] W fun e w' => e = .returned (.int .i64 (pI T)) ∧ Below W.heap.size W w' := by
    intro g W T h h1 h2; rw [← hpi]; exact refpick_any ka kb t h h1 h2 x1 x2 x3 x4
  clear PI hpi x1 x2 x3 x4
  replace PK := Lib.hid PK
  replace PR := Lib.hid PR
  obtain ⟨tp, v, hi, lo, v', hi', lo', sp, dp⟩ := t
  unfold Tup.val at *
  dsimp only at *
  by_cases h16 : 16 < l.length
  · have e16 : decide ((16 : Int) < (l.length : Int)) = true := by simp; omega
    clear R1 R2 hr0 ho0 K0 T0
    go_enter Try.func5, Try.ntmps5
    go_wp2_with fail
    rw [← hw0]
    clear hw0
    refine (awake29 _).mono ?_
    rintro e w1 ⟨rfl, hb1⟩
    go_wp2_with fail
    go_ret
    exact ⟨rfl, below_chain hb1 hb0⟩
  have e16 : decide ((16 : Int) < (l.length : Int)) = false := by simp; omega
  by_cases h16o : 16 < o.length
  · have e16o : decide ((16 : Int) < (o.length : Int)) = true := by simp; omega
    clear R1 R2 hr0 ho0 K0 T0
    go_enter Try.func5, Try.ntmps5
    go_wp2_with fail
    rw [← hw0]
    clear hw0
    refine (awake29 _).mono ?_
    rintro e w1 ⟨rfl, hb1⟩
    go_wp2_with fail
    go_ret
    exact ⟨rfl, below_chain hb1 hb0⟩
  have e16o : decide ((16 : Int) < (o.length : Int)) = false := by simp; omega
  go_enter Try.func5, Try.ntmps5
  go_wp2_with fail
  rw [← hw0]
  clear hw0
  refine R1.out.mono ?_
  rintro e w00 ⟨r, n0, rfl, rfl, hR⟩
  cases r
  · clear hR
    go_wp2_with (go_at_call 26; (with_reducible refine (awake29 _).mono ?_); rintro e w2 ⟨rfl, hb2⟩)
    go_ret
    exact ⟨rfl, below_chain hb2 (below_drewN hb0 n0)⟩
  have hL := Lib.hid (hR (by trivial))
  clear hR R1
  have Q2 := R2.out n0
  clear R2
  have ho1 : Reads (w0.drewN n0) (w0.drewN n0).heap.size 6 B o.length (o.flatMap Bk.cells) := ho0
  have hr1 : Reads (w0.drewN n0) (w0.drewN n0).heap.size 6 A l.length (l.flatMap Bk.cells) := hr0
  have K1 : Blk (w0.drewN n0) w.heap.size 25 #[.int .u64 ka, .int .u64 kb] := K0
  have T1 : Blk (w0.drewN n0) (w.heap.size + 1) 50 _ := T0
  have hb1 : Below w.heap.size w (w0.drewN n0) := below_drewN hb0 n0
  generalize w0.drewN n0 = w1 at *
  replace Q2 := Lib.hid Q2
  clear hb0 K0 T0 hr0 ho0
  go_wp2_with fail
  refine Q2.out.mono ?_
  rintro e w00 ⟨r, n1, rfl, rfl, hR⟩
  have ho2 : Reads (w1.drewN n1) (w1.drewN n1).heap.size 6 B o.length (o.flatMap Bk.cells) := ho1
  have hr2 : Reads (w1.drewN n1) (w1.drewN n1).heap.size 6 A l.length (l.flatMap Bk.cells) := hr1
  have K2 : Blk (w1.drewN n1) w.heap.size 25 #[.int .u64 ka, .int .u64 kb] := K1
  have T2 : Blk (w1.drewN n1) (w.heap.size + 1) 50 _ := T1
  have hb2 : Below w.heap.size w (w1.drewN n1) := below_drewN hb1 n1
  generalize w1.drewN n1 = w2 at *
  clear Q2 hb1 K1 T1 hr1 ho1
  cases r
  · clear hR
    go_wp2_with (go_at_call 26; (with_reducible refine (awake29 _).mono ?_); rintro e w3 ⟨rfl, hb3⟩)
    go_ret
    exact ⟨rfl, below_chain hb3 hb2⟩
  have hM := Lib.hid (hR (by trivial))
  clear hR
  have k0 := K2.cell 0
  have k1 := K2.cell 1
  simp at k0 k1
  have hom : o.length ≤ m := by omega
  have hidso := bkRight_ids hM.out
  have hUl := tableOf_len (ka := ka) (kb := kb) hm (l := o.map Bk.id) (by rw [List.length_map]; exact h0o) (bkRight_ne hM.out)
  have M1 := fun W hr => new_some 0 o B d ka kb m W hr hm h0o hom hidso
  have M2 := fun W hr => refnew_some o B d ka kb m W hr hm h0o hom hidso
  generalize tableOf ka kb m (o.map Bk.id) = U at *
  replace M1 := Lib.hid M1
  replace M2 := Lib.hid M2
  replace hUl := Lib.hid hUl
  clear hidso
  have hmb : m ≤ 251 := by omega
  have em : decide ((251 : Int) < (m : Int)) = false := by simp; omega
  have hlm : l.length ≤ m := by omega
  have hids := bkRight_ids hL.out
  have hTl := tableOf_len (ka := ka) (kb := kb) hm (l := l.map Bk.id) (by rw [List.length_map]; exact h0) (bkRight_ne hL.out)
  have N1 := fun W hr => new_some 0 l A c ka kb m W hr hm h0 hlm hids
  have N2 := fun W hr => refnew_some l A c ka kb m W hr hm h0 hlm hids
  generalize tableOf ka kb m (l.map Bk.id) = T at *
  have PK1 := fun g W h => PK.out g W T h (by omega) (by omega)
  have PR1 := fun g W h => PR.out g W T h (by omega) (by omega)
  have PL := fun g W h => places_any (w := W) (g := g) (ka := ka) (kb := kb) (pl := T) h (by omega) (by omega)
  have SI := fun A B c d W N ha hb => sameInts_any A B c d T T W N ha hb (by omega) (by omega)
  have hsl : sameL T T = true := by unfold sameL; simp
  rw [hsl] at SI
  have MS := fun W g h => moved_any (w := W) (g := g) (g2 := g) (p := T) (q := T) (ka := ka) (kb := kb) (ka2 := ka) (kb2 := kb) h h (by omega) (by omega) rfl
  rw [mvC_self] at MS
  rw [hTl] at SI PL PR1
  obtain ⟨x, hx⟩ : ∃ x, pI T = x := ⟨_, rfl⟩
  rw [hx] at PK1 PR1
  replace N1 := Lib.hid N1
  replace N2 := Lib.hid N2
  replace PK1 := Lib.hid PK1
  replace PR1 := Lib.hid PR1
  replace PL := Lib.hid PL
  replace SI := Lib.hid SI
  replace MS := Lib.hid MS
  replace hTl := Lib.hid hTl
  replace hx := Lib.hid hx
  replace hm := Lib.hid hm
  clear PK PR hsl hids
  go_wp2_with fail
  refine (N1.out _ hr2).mono ?_
  rintro e w3 ⟨g1, rfl, hT3, -, hb3⟩
  have hbA := below_chain hb3 hb2
  have K3 := K2.call hb3
  have T3 := T2.call hb3
  have hr3 := (hr2.below hb3).more hb3.size
  have ho3 := (ho2.below hb3).more hb3.size
  clear hb3 hb2 K2 k0 k1 T2 hr2 ho2 N1
  have k0 := K3.cell 0
  have k1 := K3.cell 1
  simp at k0 k1
  go_wp2_with fail
  refine (N2.out _ hr3).mono ?_
  rintro e w4 ⟨gp, rfl, hP4, -, hb4⟩
  have hbB := below_chain hb4 hbA
  have hT4 := hT3.keep hb4
  have K4 := K3.call hb4
  have T4 := T3.call hb4
  have ho4 := (ho3.below hb4).more hb4.size
  clear hb4 hbA K3 T3 hr3 ho3 k0 k1 hT3 N2
  have c0 := T4.cell 0
  have c1 := T4.cell 1
  have c2 := T4.cell 2
  have c3 := T4.cell 3
  have c4 := T4.cell 4
  have c5 := T4.cell 5
  have c6 := T4.cell 6
  have c7 := T4.cell 7
  have c8 := T4.cell 8
  simp only [List.getElem?_toArray, List.getElem?_cons_zero, List.getElem?_cons_succ] at c0 c1 c2 c3 c4 c5 c6 c7 c8
  go_wp2_with fail
  refine (PK1.out g1 _ hT4).mono ?_
  rintro e w5 ⟨rfl, hb5⟩
  have hbC := below_chain hb5 hbB
  have hT5 := hT4.keep hb5
  have hP5 : PlAt w5 gp m T := hP4.of_block (hb5.block gp hP4.lt)
  have K5 := K4.call hb5
  have T5 := T4.call hb5
  have ho5 := (ho4.below hb5).more hb5.size
  clear hb5 hbB K4 T4 ho4 c0 c1 c2 c3 c4 c5 c6 c7 c8 hT4 hP4 PK1
  go_wp2_with fail
  refine (PL.out g1 _ hT5).mono ?_
  rintro e w6 ⟨A6, c6, rfl, hr6, hb6⟩
  have hbD := below_chain hb6 hbC
  have hT6 := hT5.keep hb6
  have hP6 : PlAt w6 gp m T := hP5.of_block (hb6.block gp hP5.lt)
  have K6 := K5.call hb6
  have T6 := T5.call hb6
  have ho6 := (ho5.below hb6).more hb6.size
  clear hb6 hbC K5 T5 ho5 hT5 hP5 PL
  have hrp : Reads w6 w6.heap.size 1 (some ⟨gp, 0, none⟩) m (T.map (.int .i64)) := by
    have h := PlAt.reads (w := w6) (g := gp) (pl := T) (by rw [hTl.out]; exact hP6)
    rwa [hTl.out] at h
  go_wp2_with fail
  refine (SI.out _ _ _ _ _ w6.heap.size hr6 hrp).mono ?_
  rintro e w66 ⟨rfl, n6, rfl⟩
  have hbE : Below w.heap.size w (w6.drewN n6) := below_drewN hbD n6
  have hT7 : TabAt (w6.drewN n6) g1 ka kb T := hT6
  have hP7 : PlAt (w6.drewN n6) gp m T := hP6
  have K7 : Blk (w6.drewN n6) w.heap.size 25 #[.int .u64 ka, .int .u64 kb] := K6
  have T7 : Blk (w6.drewN n6) (w.heap.size + 1) 50 _ := T6
  have ho7 : Reads (w6.drewN n6) (w6.drewN n6).heap.size 6 B o.length (o.flatMap Bk.cells) := ho6
  generalize w6.drewN n6 = w7 at *
  clear hbD K6 T6 ho6 hT6 hP6 hrp hr6 SI
  have k0 := K7.cell 0
  have k1 := K7.cell 1
  simp at k0 k1
  have c0 := T7.cell 0
  have c1 := T7.cell 1
  have c2 := T7.cell 2
  have c3 := T7.cell 3
  have c4 := T7.cell 4
  have c5 := T7.cell 5
  have c6 := T7.cell 6
  have c7 := T7.cell 7
  have c8 := T7.cell 8
  simp only [List.getElem?_toArray, List.getElem?_cons_zero, List.getElem?_cons_succ] at c0 c1 c2 c3 c4 c5 c6 c7 c8
  go_wp2_with fail
  refine (PR1.out gp _ hP7).mono ?_
  rintro e w8 ⟨rfl, hb8⟩
  have hbF := below_chain hb8 hbE
  have hT8 := hT7.keep hb8
  have hP8 : PlAt w8 gp m T := hP7.of_block (hb8.block gp hP7.lt)
  have K8 := K7.call hb8
  have ho8 := (ho7.below hb8).more hb8.size
  clear hb8 hbE K7 T7 ho7 c0 c1 c2 c3 c4 c5 c6 c7 c8 hT7 hP7 PR1 k0 k1
  have k0 := K8.cell 0
  have k1 := K8.cell 1
  simp at k0 k1
  go_wp2_with fail
  refine (M1.out _ ho8).mono ?_
  rintro e w9 ⟨g2, rfl, hU9, -, hb9⟩
  have hbG := below_chain hb9 hbF
  have hT9 := hT8.keep hb9
  have hP9 : PlAt w9 gp m T := hP8.of_block (hb9.block gp hP8.lt)
  have K9 := K8.call hb9
  have ho9 := (ho8.below hb9).more hb9.size
  clear hb9 hbF K8 ho8 hT8 hP8 k0 k1
  have k0 := K9.cell 0
  have k1 := K9.cell 1
  simp at k0 k1
  go_wp2_with fail
  refine (M2.out _ ho9).mono ?_
  rintro e w10 ⟨gq, rfl, hQ10, -, hb10⟩
  have hbH := below_chain hb10 hbG
  have hT10 := hT9.keep hb10
  have hU10 := hU9.keep hb10
  have hP10 : PlAt w10 gp m T := hP9.of_block (hb10.block gp hP9.lt)
  clear hb10 hbG K9 hT9 hU9 hP9 ho9 k0 k1 M1 M2
  go_wp2_with fail
  go_loopw [21, 22] (fun n i wr => ∃ (k q : Nat), k ≤ m ∧ i = .int .i64 (k : Int) ∧ n = .int .i64 ((mvC T U k : Nat) : Int) ∧ wr = w10.drewN q) (fun _ i _ => m - (intOf i).toNat)
  case atStart => exact ⟨0, 0, by omega, rfl, rfl, rfl⟩
  case round =>
    obtain ⟨k, q, hk, rfl, rfl, rfl⟩ := hrel
    by_cases hlt : k < m
    · have hlti : (k : Int) < (m : Int) := by omega
      have d1 := hP10.cell hlt
      have d2 := hQ10.cell hlt
      have hst := mvC_succ T U k
      have hle := mvC_le T U k
      obtain ⟨x, hx⟩ : ∃ x, T.getD k 0 = x := ⟨_, rfl⟩
      obtain ⟨y, hy⟩ : ∃ y, U.getD k 0 = y := ⟨_, rfl⟩
      rw [hx] at d1 hst
      rw [hy] at d2 hst
      obtain ⟨z, hz⟩ : ∃ z, (x != y) = z := ⟨_, rfl⟩
      rw [hz] at hst
      generalize mvC T U k = j at *
      replace hst := Lib.hid hst
      replace hx := Lib.hid hx
      replace hy := Lib.hid hy
      cases z
      all_goals
        go_wp2_with fail
        go_quiet (fail)
        go_wp2_with fail
        go_roundw
        case rel => exact ⟨k + 1, _, by omega, by go_num, by rw [hst.out]; first | rfl | go_num, rfl⟩
        case measure => simp [intOf]; omega
    · obtain rfl : k = m := by omega
      have hlti : ¬ (k : Int) < (k : Int) := by omega
      have hbI : Below w.heap.size w (w10.drewN q) := below_drewN hbH q
      have hT11 : TabAt (w10.drewN q) g1 ka kb T := hT10
      have hU11 : TabAt (w10.drewN q) g2 ka kb U := hU10
      generalize w10.drewN q = w11 at *
      clear hbH hT10 hU10 hP10 hQ10
      have MV := moved_any hT11 hU11 (by rw [hTl.out]; omega) (by rw [hTl.out]; omega) (by rw [hTl.out, hUl.out])
      rw [hTl.out] at MV
      replace MV := Lib.hid MV
      go_wp2_with fail
      refine MV.out.mono ?_
      rintro e w12 ⟨rfl, hb12⟩
      have hbJ := below_chain hb12 hbI
      have hT12 := hT11.keep hb12
      clear hb12 hbI hT11 hU11
      go_wp2_with fail
      refine (MS.out _ g1 hT12).mono ?_
      rintro e w13 ⟨rfl, hb13⟩
      have hbK := below_chain hb13 hbJ
      clear hb13 hbJ hT12
      go_wp2_with fail
      refine (awake29 _).mono ?_
      rintro e w14 ⟨rfl, hb14⟩
      go_wp2_with fail
      go_ret
      exact ⟨rfl, below_chain hb14 hbK⟩

theorem newE_cases (m : Int) (n : Nat) (hm : ¬ (251 < m ∧ sizedB m = true)) (h : newE m n = 0) : ∃ k : Nat, m = k ∧ (k = 13 ∨ k = 251) ∧ 0 < n ∧ n ≤ k := by
  unfold newE at h
  split at h
  · rename_i hs
    split at h
    · cases h
    · split at h
      · cases h
      · have : m = 13 ∨ m = 251 ∨ m = 1021 ∨ m = 4093 := by unfold sizedB at hs; simpa using hs
        have h2 : m = 13 ∨ m = 251 := by
          rcases this with h | h | h | h
          · exact .inl h
          · exact .inr h
          · exact absurd ⟨by omega, hs⟩ hm
          · exact absurd ⟨by omega, hs⟩ hm
        exact ⟨m.toNat, by omega, by omega, by omega, by omega⟩
  · cases h
theorem maglevTells_calls (l : List Bk) (A : Option Addr) (c : Nat) (o : List Bk) (B : Option Addr) (d : Nat) (ka kb : Int) (m : Int) (t : Tup) (w : World) (hr : Reads w w.heap.size 6 A l.length (l.flatMap Bk.cells)) (hl : l.length ≤ 9223372036854775807) (ho : Reads w w.heap.size 6 B o.length (o.flatMap Bk.cells)) (hol : o.length ≤ 9223372036854775807)
    (x1 : t.hi < 18446744073709551616) (x2 : t.lo < 18446744073709551616) (x3 : t.hi' < 18446744073709551616) (x4 : t.lo' < 18446744073709551616) :
    Calls Try.prog 5 #[.slice A l.length c, .slice B o.length d, .agg #[.int .u64 ka, .int .u64 kb], .int .i64 m, t.val] w fun e w' => e = .returned (.bool true) ∧ Below w.heap.size w w' := by
  by_cases hbig : 251 < m
  · cases hs : sizedB m
    · exact maglevTells_odd l A c o B d ka kb m t w hr hl ho hol x1 x2 x3 x4 hbig hs (by unfold newE; rw [hs]; simp)
    · exact maglevTells_big l A c o B d ka kb m t w hr hl ho hol x1 x2 x3 x4 hbig hs
  · by_cases he : newE m l.length = 0
    · obtain ⟨k, rfl, hk, h0, h1⟩ := newE_cases m l.length (fun h => hbig h.1) he
      by_cases he2 : newE k o.length = 0
      · obtain ⟨k2, hk2, _, h2, h3⟩ := newE_cases k o.length (fun h => hbig h.1) he2
        exact maglevTells_both l A c o B d ka kb k t w hr hl ho hol x1 x2 x3 x4 hk h0 h1 h2 (by omega)
      · exact maglevTells_less l A c o B d ka kb k t w hr hl ho hol x1 x2 x3 x4 hk h0 h1 he2
    · exact maglevTells_none l A c o B d ka kb m t w hr hl ho hol x1 x2 x3 x4 (by omega) he
end Go.Proofs.Ytiicgnijiiidcaa
