/- shift: the check of an example; the law ShiftTells, called. -/
import Derived.Test.YtkpkjpdhlmjchaaShiftY
namespace Go.Proofs.Ytkpkjpdhlmjchaa
open Go Go.RowKit Go.Deep

set_option maxRecDepth 100000 in
set_option maxHeartbeats 4000000 in
theorem awake46 (w : World) : Calls Try.prog 12 #[] w fun e w' => e = .returned (.bool true) ∧ Below w.heap.size w w' := by
  have h1 : ShOk 13 [⟨1, 0, 0, false, 0, 0⟩] [⟨2, 0, 0, false, 0, 0⟩] := ⟨fun _ => .inl rfl, by simp, by simp, fun x hx => by simp at hx; subst hx; simp, fun x hx => by simp at hx; subst hx; simp⟩
  have h2 : ShOk 13 [] [] := ⟨fun _ => .inl rfl, by simp, by simp, fun x hx => by simp at hx, fun x hx => by simp at hx⟩
  have e1 : shE 13 [⟨1, 0, 0, false, 0, 0⟩] [⟨2, 0, 0, false, 0, 0⟩] = 0 := by decide
  have v1 : shV 0 0 13 [⟨1, 0, 0, false, 0, 0⟩] [⟨2, 0, 0, false, 0, 0⟩] = ⟨13, 13, 13, 0⟩ := by
    unfold shV
    rw [e1, if_pos rfl]
    show (⟨13, _, _, _⟩ : Mv) = _
    rw [show (13 : Int).toNat = 13 from rfl]
    simp only [List.map_cons, List.map_nil]
    rw [tableOf_one (.inl rfl) (by decide), tableOf_one (.inl rfl) (by decide)]
    rfl
  have OF := fun W hr ho => shiftof_any 0 0 [⟨1, 0, 0, false, 0, 0⟩] (some ⟨w.heap.size, 0, none⟩) 1 [⟨2, 0, 0, false, 0, 0⟩] (some ⟨w.heap.size + 1, 0, none⟩) 1 0 0 13 W hr ho h1
  rw [e1, v1] at OF
  have DR := fun W => drain_any 0 [] none 0 1 0 0 13 W Reads.none_ h2
  have e2 : drE 13 [] 1 = 13 := by decide
  have v2 : drV 0 0 13 [] 1 = ⟨0, 0, 0, 0⟩ := rfl
  rw [e2, v2] at DR
  have S1 := fun W => share_any 13 13 13 0 W (by omega) (by omega)
  have S2 := fun W => share_any 0 0 0 0 W (by omega) (by omega)
  have s1 : shareI 13 13 = 1000 := by decide
  have s2 : shareI 0 0 = 0 := by decide
  rw [s1] at S1
  rw [s2] at S2
  obtain ⟨w0, hw0⟩ : ∃ w0, w0 = (w.alloc (.cells #[.int .i64 1, .int .i64 0, .int .i64 0, .bool false, .int .u64 0, .int .u64 0] 47)).alloc (.cells #[.int .i64 2, .int .i64 0, .int .i64 0, .bool false, .int .u64 0, .int .u64 0] 47) := ⟨_, rfl⟩
  have hb0 : Below w.heap.size w w0 := hw0 ▸ below_alloc (below_alloc (Below.refl _ _) _) _
  have r1 : Reads w0 w0.heap.size 6 (some ⟨w.heap.size, 0, none⟩) 1 ([⟨1, 0, 0, false, 0, 0⟩].flatMap Bk.cells) := by
    rw [hw0]
    exact ((lits_read w (w.heap.size + 1) 6 1 47 [.int .i64 1, .int .i64 0, .int .i64 0, .bool false, .int .u64 0, .int .u64 0] rfl (by omega)).alloc (by simp) _).more (by simp)
  have r2 : Reads w0 w0.heap.size 6 (some ⟨w.heap.size + 1, 0, none⟩) 1 ([⟨2, 0, 0, false, 0, 0⟩].flatMap Bk.cells) := by
    rw [hw0]
    have := lits_read (w.alloc (.cells #[.int .i64 1, .int .i64 0, .int .i64 0, .bool false, .int .u64 0, .int .u64 0] 47)) (w.heap.size + 1 + 1) 6 1 47 [.int .i64 2, .int .i64 0, .int .i64 0, .bool false, .int .u64 0, .int .u64 0] rfl (by simp)
    simp only [World.size_alloc] at this ⊢
    exact this
  replace OF := Lib.hid (OF w0 r1 r2)
  replace DR := Lib.hid DR
  replace S1 := Lib.hid S1
  replace S2 := Lib.hid S2
  clear h1 h2 e1 v1 e2 v2 s1 s2 r1 r2
  go_enter Try.func12, Try.ntmps12
  go_wp2_with fail
  rw [← hw0]
  clear hw0
  refine OF.out.mono ?_
  rintro e w1 ⟨rfl, hb1⟩
  have X1 := Blk.new w1 31 (mvArr 13 13 13 0)
  have hbA := below_alloc (below_chain hb1 hb0) (.cells (mvArr 13 13 13 0) 31)
  clear hb1 hb0 OF
  go_wp2_with fail
  generalize w1.alloc (.cells (mvArr 13 13 13 0) 31) = w2 at *
  generalize w1.heap.size = g1 at *
  refine (DR.out _).mono ?_
  rintro e w3 ⟨rfl, hb3⟩
  have X2 := (X1.call hb3).alloc (.cells (mvArr 0 0 0 0) 31)
  have hbB := below_alloc (below_chain hb3 hbA) (.cells (mvArr 0 0 0 0) 31)
  clear X1 hb3 hbA DR
  obtain ⟨⟨b0, b1, b2, b3⟩, -⟩ := X2.four
  go_wp2_with fail
  refine (S1.out _).mono ?_
  rintro e w4 ⟨rfl, hb4⟩
  have hbC := below_chain hb4 hbB
  clear b0 b1 b2 b3 X2 hbB hb4
  go_wp2_with fail
  refine (S2.out _).mono ?_
  rintro e w5 ⟨rfl, hb5⟩
  have hbD := below_chain hb5 hbC
  clear hbC hb5
  go_wp2_with fail
  go_ret
  exact ⟨rfl, hbD⟩

/-- What a call that only makes memory leaves as it was. -/
def Stay (P : World → Prop) : Prop := ∀ W W1, Below W.heap.size W W1 → P W → P W1
theorem Stay.and {P Q : World → Prop} (hp : Stay P) (hq : Stay Q) : Stay fun w => P w ∧ Q w := fun W W1 hb h => ⟨hp W W1 hb h.1, hq W W1 hb h.2⟩
theorem Stay.cell (a : Addr) (v : Value) : Stay fun w => w.cell? a = some v := fun _ _ hb h => (hb.cell (block_lt_of_cell h)).trans h
theorem Stay.below (w0 : World) : Stay fun w => Below w0.heap.size w0 w := fun _ _ hb h => below_chain hb h

set_option maxRecDepth 100000 in
set_option maxHeartbeats 16000000 in
theorem shiftTells_main (l : List Bk) (A : Option Addr) (c : Nat) (o : List Bk) (B : Option Addr) (d : Nat) (ka kb m id n0 n1 n2 n3 : Int) (w : World) (hr : Reads w w.heap.size 6 A l.length (l.flatMap Bk.cells)) (hl : l.length ≤ 9223372036854775807) (ho : Reads w w.heap.size 6 B o.length (o.flatMap Bk.cells)) (hol : o.length ≤ 9223372036854775807) :
    Calls Try.prog 3 #[.slice A l.length c, .slice B o.length d, .agg #[.int .u64 ka, .int .u64 kb], .int .i64 m, .int .i64 id, .agg (mvArr n0 n1 n2 n3)] w fun e w' => e = .returned (.bool true) ∧ Below w.heap.size w w' := by
  obtain ⟨w0, hw0⟩ : ∃ w0, w0 = (w.alloc (.cells #[.int .u64 ka, .int .u64 kb] 25)).alloc (.cells (mvArr n0 n1 n2 n3) 27) := ⟨_, rfl⟩
  have hb0 : Below w.heap.size w w0 := hw0 ▸ below_alloc (below_alloc (Below.refl _ _) _) _
  have hr0 : Reads w0 w0.heap.size 6 A l.length (l.flatMap Bk.cells) := (hr.below hb0).more hb0.size
  have ho0 : Reads w0 w0.heap.size 6 B o.length (o.flatMap Bk.cells) := (ho.below hb0).more hb0.size
  have R1 := Lib.hid (ref24_right l A c _ hr0 hl)
  have R2 := Lib.hid fun n => ref24_right o B d (w0.drewN n) ho0 hol
  have K0 : Blk w0 w.heap.size 25 #[.int .u64 ka, .int .u64 kb] := hw0 ▸ (Blk.new w _ _).alloc _
  have T0 : Blk w0 (w.heap.size + 1) 27 (mvArr n0 n1 n2 n3) := by
    have := Blk.new (w.alloc (.cells #[.int .u64 ka, .int .u64 kb] 25)) 27 (mvArr n0 n1 n2 n3)
    rw [← hw0] at this
    simpa using this
  have SZ := refsize_any m
  have AW := awake46
  replace AW := Lib.hid AW
  by_cases h13 : 13 < l.length
  · have e13 : decide ((13 : Int) < (l.length : Int)) = true := by simp; omega
    clear R1 R2 hr0 ho0 K0 T0 SZ
    go_enter Try.func3, Try.ntmps3
    go_wp2_with fail
    rw [← hw0]
    clear hw0
    refine (AW.out _).mono ?_
    rintro e w1 ⟨rfl, hb1⟩
    go_wp2_with fail
    go_ret
    exact ⟨rfl, below_chain hb1 hb0⟩
  have e13 : decide ((13 : Int) < (l.length : Int)) = false := by simp; omega
  by_cases h13o : 13 < o.length
  · have e13o : decide ((13 : Int) < (o.length : Int)) = true := by simp; omega
    clear R1 R2 hr0 ho0 K0 T0 SZ
    go_enter Try.func3, Try.ntmps3
    go_wp2_with fail
    rw [← hw0]
    clear hw0
    refine (AW.out _).mono ?_
    rintro e w1 ⟨rfl, hb1⟩
    go_wp2_with fail
    go_ret
    exact ⟨rfl, below_chain hb1 hb0⟩
  have e13o : decide ((13 : Int) < (o.length : Int)) = false := by simp; omega
  obtain ⟨sz, hsz⟩ : ∃ sz, sizedB m = sz := ⟨_, rfl⟩
  rw [hsz] at SZ
  replace SZ := Lib.hid SZ
  replace hsz := Lib.hid hsz
  go_enter Try.func3, Try.ntmps3
  go_wp2_with fail
  rw [← hw0]
  clear hw0
  refine R1.out.mono ?_
  rintro e w00 ⟨r, n0', rfl, rfl, hR⟩
  cases r
  · clear hR
    go_wp2_with (go_at_call 12; (with_reducible refine (AW.out _).mono ?_); rintro e w2 ⟨rfl, hb2⟩)
    go_ret
    exact ⟨rfl, below_chain hb2 (below_drewN hb0 n0')⟩
  have hL := Lib.hid (hR (by trivial))
  clear hR R1
  have Q2 := R2.out n0'
  clear R2
  have ho1 : Reads (w0.drewN n0') (w0.drewN n0').heap.size 6 B o.length (o.flatMap Bk.cells) := ho0
  have hr1 : Reads (w0.drewN n0') (w0.drewN n0').heap.size 6 A l.length (l.flatMap Bk.cells) := hr0
  have K1 : Blk (w0.drewN n0') w.heap.size 25 #[.int .u64 ka, .int .u64 kb] := K0
  have T1 : Blk (w0.drewN n0') (w.heap.size + 1) 27 (mvArr n0 n1 n2 n3) := T0
  have hb1 : Below w.heap.size w (w0.drewN n0') := below_drewN hb0 n0'
  generalize w0.drewN n0' = w1 at *
  replace Q2 := Lib.hid Q2
  clear hb0 K0 T0 hr0 ho0
  go_wp2_with fail
  refine Q2.out.mono ?_
  rintro e w00 ⟨r, n1', rfl, rfl, hR⟩
  have ho2 : Reads (w1.drewN n1') (w1.drewN n1').heap.size 6 B o.length (o.flatMap Bk.cells) := ho1
  have hr2 : Reads (w1.drewN n1') (w1.drewN n1').heap.size 6 A l.length (l.flatMap Bk.cells) := hr1
  have K2 : Blk (w1.drewN n1') w.heap.size 25 #[.int .u64 ka, .int .u64 kb] := K1
  have T2 : Blk (w1.drewN n1') (w.heap.size + 1) 27 (mvArr n0 n1 n2 n3) := T1
  have hb2 : Below w.heap.size w (w1.drewN n1') := below_drewN hb1 n1'
  generalize w1.drewN n1' = w2 at *
  clear Q2 hb1 K1 T1 hr1 ho1
  cases r
  · clear hR
    go_wp2_with (go_at_call 12; (with_reducible refine (AW.out _).mono ?_); rintro e w3 ⟨rfl, hb3⟩)
    go_ret
    exact ⟨rfl, below_chain hb3 hb2⟩
  have hM := Lib.hid (hR (by trivial))
  clear hR
  have hsok : ¬ (251 < m ∧ sz = true) → (sizedB m = true → m = 13 ∨ m = 251) := by
    intro h1 h2
    rw [hsz.out] at h2
    have h3 : m ≤ 251 := by
      rcases Int.lt_or_le 251 m with h | h
      · exact absurd ⟨h, h2⟩ h1
      · exact h
    have := hsz.out.trans h2
    simp [sizedB] at this
    omega
  obtain ⟨⟨t0, t1, t2, t3⟩, -⟩ := T2.four
  have hcase : (251 < m ∧ sz = true) ∨ (251 < m ∧ sz = false) ∨ m ≤ 251 := by
    rcases Int.lt_or_le 251 m with h | h
    · cases sz
      · exact .inr (.inl ⟨h, rfl⟩)
      · exact .inl ⟨h, rfl⟩
    · exact .inr (.inr h)
  rcases hcase with ⟨h, rfl⟩ | h
  · have em : decide ((251 : Int) < m) = true := by simpa using h
    clear hsok t0 t1 t2 t3
    go_wp2_with fail
    refine (SZ.out _).mono ?_
    rintro e w3 ⟨rfl, rfl⟩
    go_wp2_with fail
    refine (AW.out _).mono ?_
    rintro e w3 ⟨rfl, hb3⟩
    go_wp2_with fail
    go_ret
    exact ⟨rfl, below_chain hb3 hb2⟩
  have hsk := Lib.hid (hsok (by rintro ⟨h1, rfl⟩; rcases h with ⟨_, h2⟩ | h2; exact absurd h2 (by decide); omega))
  clear hsok
  by_cases hneg : n1 < 0
  · have en : decide (n1 < 0) = true := by simpa using hneg
    clear t0 t2 t3
    rcases h with ⟨h, rfl⟩ | h
    · have em : decide ((251 : Int) < m) = true := by simpa using h
      go_wp2_with fail
      refine (SZ.out _).mono ?_
      rintro e w3 ⟨rfl, rfl⟩
      go_wp2_with fail
      refine (AW.out _).mono ?_
      rintro e w3 ⟨rfl, hb3⟩
      go_wp2_with fail
      go_ret
      exact ⟨rfl, below_chain hb3 hb2⟩
    · have em : decide ((251 : Int) < m) = false := by simpa using h
      go_wp2_with fail
      refine (AW.out _).mono ?_
      rintro e w3 ⟨rfl, hb3⟩
      go_wp2_with fail
      go_ret
      exact ⟨rfl, below_chain hb3 hb2⟩
  have en : decide (n1 < 0) = false := by simpa using hneg
  by_cases hbig : 1099511627776 < n1
  · have eb : decide (1099511627776 < n1) = true := by simpa using hbig
    clear t0 t2 t3
    rcases h with ⟨h, rfl⟩ | h
    · have em : decide ((251 : Int) < m) = true := by simpa using h
      go_wp2_with fail
      refine (SZ.out _).mono ?_
      rintro e w3 ⟨rfl, rfl⟩
      go_wp2_with fail
      refine (AW.out _).mono ?_
      rintro e w3 ⟨rfl, hb3⟩
      go_wp2_with fail
      go_ret
      exact ⟨rfl, below_chain hb3 hb2⟩
    · have em : decide ((251 : Int) < m) = false := by simpa using h
      go_wp2_with fail
      refine (AW.out _).mono ?_
      rintro e w3 ⟨rfl, hb3⟩
      go_wp2_with fail
      go_ret
      exact ⟨rfl, below_chain hb3 hb2⟩
  have eb : decide (1099511627776 < n1) = false := by simpa using hbig
  have hOk : ShOk m l o := ⟨hsk.out, hL.out.1, hM.out.1, bkRight_ids hL.out, bkRight_ids hM.out⟩
  have hOkl : ShOk m l l := ⟨hsk.out, hL.out.1, hL.out.1, bkRight_ids hL.out, bkRight_ids hL.out⟩
  have OF := fun W (hb : Below w.heap.size w W) => shiftof_any 0 0 l A c o B d ka kb m W ((hr.below hb).more hb.size) ((ho.below hb).more hb.size) hOk
  have RF := fun W (hb : Below w.heap.size w W) => refof_any l A c o B d ka kb m W ((hr.below hb).more hb.size) ((ho.below hb).more hb.size) hOk
  have DF := fun W (hb : Below w.heap.size w W) => drain_any 0 l A c id ka kb m W ((hr.below hb).more hb.size) hOkl
  have RD := fun W (hb : Below w.heap.size w W) => refdrain_any l A c id ka kb m W ((hr.below hb).more hb.size) hOkl
  have SA := fun W => share_any n0 n1 0 0 W (by omega) (by omega)
  have SB := fun W => refshare_any n0 n1 n2 n3 W (by omega) (by omega)
  generalize shV ka kb m l o = V at *
  generalize shE m l o = E at *
  generalize drV ka kb m l id = V2 at *
  generalize drE m l id = E2 at *
  generalize shareI n0 n1 = sv at *
  obtain ⟨a0, a1, a2, a3⟩ := V
  obtain ⟨c0, c1, c2, c3⟩ := V2
  dsimp only [Mv.arr] at *
  have q1 : (E == E) = true := by simp
  have q2 : (E2 == E2) = true := by simp
  have q3 : (sv == sv) = true := by simp
  have p0 : (a0 == a0) = true := by simp
  have p1 : (a1 == a1) = true := by simp
  have p2 : (a2 == a2) = true := by simp
  have p3 : (a3 == a3) = true := by simp
  have r0 : (c0 == c0) = true := by simp
  have r1 : (c1 == c1) = true := by simp
  have r2 : (c2 == c2) = true := by simp
  have r3 : (c3 == c3) = true := by simp
  replace OF := Lib.hid OF
  replace RF := Lib.hid RF
  replace DF := Lib.hid DF
  replace RD := Lib.hid RD
  replace SA := Lib.hid SA
  replace SB := Lib.hid SB
  clear hr ho hr2 ho2 hOk hOkl hL hM hsk hneg hbig h13 h13o hl hol t0 t2 t3
  have k0 := K2.cell 0
  have k1 := K2.cell 1
  simp only [List.getElem?_toArray, List.getElem?_cons_zero, List.getElem?_cons_succ] at k0 k1
  rcases h with ⟨h, rfl⟩ | h
  case' inl =>
    have em : decide ((251 : Int) < m) = true := by simpa using h
    go_wp2_with fail
    refine (SZ.out _).mono ?_
    rintro e w3 ⟨rfl, rfl⟩
    go_wp2_with fail
  case' inr =>
    have em : decide ((251 : Int) < m) = false := by simpa using h
    go_wp2_with fail
  all_goals
    refine (OF.out _ hb2).mono ?_
    rintro e w3 ⟨rfl, hb3⟩
    have X3 := Blk.new w3 31 (mvArr a0 a1 a2 a3)
    have K3 := (K2.call hb3).alloc (.cells (mvArr a0 a1 a2 a3) 31)
    have T3 := (T2.call hb3).alloc (.cells (mvArr a0 a1 a2 a3) 31)
    have hb3' := below_alloc (below_chain hb3 hb2) (.cells (mvArr a0 a1 a2 a3) 31)
    clear hb3 K2 T2 k0 k1 hb2 OF SZ t1
    go_upto_region 4 with (fail)
    generalize w3.alloc (.cells (mvArr a0 a1 a2 a3) 31) = w4 at *
    generalize w3.heap.size = g1 at *
    have k0 := K3.cell 0
    have k1 := K3.cell 1
    simp only [List.getElem?_toArray, List.getElem?_cons_zero, List.getElem?_cons_succ] at k0 k1
    go_wp2_with fail
    refine (RF.out _ hb3').mono ?_
    rintro e w5 ⟨rfl, hb5⟩
    have X5 := (X3.call hb5).alloc (.cells (mvArr a0 a1 a2 a3) 27)
    have Y5 := Blk.new w5 27 (mvArr a0 a1 a2 a3)
    have K5 := (K3.call hb5).alloc (.cells (mvArr a0 a1 a2 a3) 27)
    have T5 := (T3.call hb5).alloc (.cells (mvArr a0 a1 a2 a3) 27)
    have hb5' := below_alloc (below_chain hb5 hb3') (.cells (mvArr a0 a1 a2 a3) 27)
    clear hb5 K3 T3 X3 k0 k1 hb3' RF
    go_upto_region 5 with (fail)
    generalize w5.alloc (.cells (mvArr a0 a1 a2 a3) 27) = w6 at *
    generalize w5.heap.size = g2 at *
    have k0 := K5.cell 0
    have k1 := K5.cell 1
    simp only [List.getElem?_toArray, List.getElem?_cons_zero, List.getElem?_cons_succ] at k0 k1
    go_wp2_with fail
    refine (DF.out _ hb5').mono ?_
    rintro e w7 ⟨rfl, hb7⟩
    have X7 := (X5.call hb7).alloc (.cells (mvArr c0 c1 c2 c3) 31)
    have Y7 := (Y5.call hb7).alloc (.cells (mvArr c0 c1 c2 c3) 31)
    have Z7 := Blk.new w7 31 (mvArr c0 c1 c2 c3)
    have K7 := (K5.call hb7).alloc (.cells (mvArr c0 c1 c2 c3) 31)
    have T7 := (T5.call hb7).alloc (.cells (mvArr c0 c1 c2 c3) 31)
    have hb7' := below_alloc (below_chain hb7 hb5') (.cells (mvArr c0 c1 c2 c3) 31)
    clear hb7 K5 T5 X5 Y5 k0 k1 hb5' DF
    go_upto_region 6 with (fail)
    generalize w7.alloc (.cells (mvArr c0 c1 c2 c3) 31) = w8 at *
    generalize w7.heap.size = g3 at *
    have k0 := K7.cell 0
    have k1 := K7.cell 1
    simp only [List.getElem?_toArray, List.getElem?_cons_zero, List.getElem?_cons_succ] at k0 k1
    go_wp2_with fail
    refine (RD.out _ hb7').mono ?_
    rintro e w9 ⟨rfl, hb9⟩
    have X9 := (X7.call hb9).alloc (.cells (mvArr c0 c1 c2 c3) 27)
    have Y9 := (Y7.call hb9).alloc (.cells (mvArr c0 c1 c2 c3) 27)
    have Z9 := (Z7.call hb9).alloc (.cells (mvArr c0 c1 c2 c3) 27)
    have U9 := Blk.new w9 27 (mvArr c0 c1 c2 c3)
    have T9 := (T7.call hb9).alloc (.cells (mvArr c0 c1 c2 c3) 27)
    have hb9' := below_alloc (below_chain hb9 hb7') (.cells (mvArr c0 c1 c2 c3) 27)
    clear hb9 K7 T7 X7 Y7 Z7 k0 k1 hb7' RD
    obtain ⟨⟨x0, x1, x2, x3⟩, -⟩ := X9.four
    obtain ⟨⟨y0, y1, y2, y3⟩, -⟩ := Y9.four
    obtain ⟨⟨z0, z1, z2, z3⟩, -⟩ := Z9.four
    obtain ⟨⟨u0, u1, u2, u3⟩, -⟩ := U9.four
    obtain ⟨⟨t0, t1, t2, t3⟩, -⟩ := T9.four
    clear X9 Y9 Z9 U9
    go_wp2_with fail
    generalize w9.alloc (.cells (mvArr c0 c1 c2 c3) 27) = w10 at *
    generalize w9.heap.size = g4 at *
    have hst : Stay (fun w' => Below w10.heap.size w10 w' ∧ w'.cell? ⟨g1, 0, none⟩ = some (.int .i64 a0) ∧ w'.cell? ⟨g1, 1, none⟩ = some (.int .i64 a1) ∧ w'.cell? ⟨g1, 2, none⟩ = some (.int .i64 a2) ∧ w'.cell? ⟨g1, 3, none⟩ = some (.int .i64 a3) ∧ w'.cell? ⟨g2, 0, none⟩ = some (.int .i64 a0) ∧ w'.cell? ⟨g2, 1, none⟩ = some (.int .i64 a1) ∧ w'.cell? ⟨g2, 2, none⟩ = some (.int .i64 a2) ∧ w'.cell? ⟨g2, 3, none⟩ = some (.int .i64 a3) ∧ w'.cell? ⟨g3, 0, none⟩ = some (.int .i64 c0) ∧ w'.cell? ⟨g3, 1, none⟩ = some (.int .i64 c1) ∧ w'.cell? ⟨g3, 2, none⟩ = some (.int .i64 c2) ∧ w'.cell? ⟨g3, 3, none⟩ = some (.int .i64 c3) ∧ w'.cell? ⟨g4, 0, none⟩ = some (.int .i64 c0) ∧ w'.cell? ⟨g4, 1, none⟩ = some (.int .i64 c1) ∧ w'.cell? ⟨g4, 2, none⟩ = some (.int .i64 c2) ∧ w'.cell? ⟨g4, 3, none⟩ = some (.int .i64 c3) ∧ w'.cell? ⟨w.heap.size + 1, 0, none⟩ = some (.int .i64 n0) ∧ w'.cell? ⟨w.heap.size + 1, 1, none⟩ = some (.int .i64 n1) ∧ w'.cell? ⟨w.heap.size + 1, 2, none⟩ = some (.int .i64 n2) ∧ w'.cell? ⟨w.heap.size + 1, 3, none⟩ = some (.int .i64 n3)) := by
      intro W W1 hb h
      obtain ⟨h0, h1, h2, h3, h4, h5, h6, h7, h8, h9, h10, h11, h12, h13, h14, h15, h16, h17, h18, h19, h20⟩ := h
      exact ⟨below_chain hb h0, (hb.cell (block_lt_of_cell h1)).trans h1, (hb.cell (block_lt_of_cell h2)).trans h2, (hb.cell (block_lt_of_cell h3)).trans h3, (hb.cell (block_lt_of_cell h4)).trans h4, (hb.cell (block_lt_of_cell h5)).trans h5, (hb.cell (block_lt_of_cell h6)).trans h6, (hb.cell (block_lt_of_cell h7)).trans h7, (hb.cell (block_lt_of_cell h8)).trans h8, (hb.cell (block_lt_of_cell h9)).trans h9, (hb.cell (block_lt_of_cell h10)).trans h10, (hb.cell (block_lt_of_cell h11)).trans h11, (hb.cell (block_lt_of_cell h12)).trans h12, (hb.cell (block_lt_of_cell h13)).trans h13, (hb.cell (block_lt_of_cell h14)).trans h14, (hb.cell (block_lt_of_cell h15)).trans h15, (hb.cell (block_lt_of_cell h16)).trans h16, (hb.cell (block_lt_of_cell h17)).trans h17, (hb.cell (block_lt_of_cell h18)).trans h18, (hb.cell (block_lt_of_cell h19)).trans h19, (hb.cell (block_lt_of_cell h20)).trans h20⟩
    replace hst := Lib.hid hst
    simp only [List.append_eq, List.cons_append, List.nil_append]
    go_region_held3 (fun w' => Below w10.heap.size w10 w' ∧ w'.cell? ⟨g1, 0, none⟩ = some (.int .i64 a0) ∧ w'.cell? ⟨g1, 1, none⟩ = some (.int .i64 a1) ∧ w'.cell? ⟨g1, 2, none⟩ = some (.int .i64 a2) ∧ w'.cell? ⟨g1, 3, none⟩ = some (.int .i64 a3) ∧ w'.cell? ⟨g2, 0, none⟩ = some (.int .i64 a0) ∧ w'.cell? ⟨g2, 1, none⟩ = some (.int .i64 a1) ∧ w'.cell? ⟨g2, 2, none⟩ = some (.int .i64 a2) ∧ w'.cell? ⟨g2, 3, none⟩ = some (.int .i64 a3) ∧ w'.cell? ⟨g3, 0, none⟩ = some (.int .i64 c0) ∧ w'.cell? ⟨g3, 1, none⟩ = some (.int .i64 c1) ∧ w'.cell? ⟨g3, 2, none⟩ = some (.int .i64 c2) ∧ w'.cell? ⟨g3, 3, none⟩ = some (.int .i64 c3) ∧ w'.cell? ⟨g4, 0, none⟩ = some (.int .i64 c0) ∧ w'.cell? ⟨g4, 1, none⟩ = some (.int .i64 c1) ∧ w'.cell? ⟨g4, 2, none⟩ = some (.int .i64 c2) ∧ w'.cell? ⟨g4, 3, none⟩ = some (.int .i64 c3) ∧ w'.cell? ⟨w.heap.size + 1, 0, none⟩ = some (.int .i64 n0) ∧ w'.cell? ⟨w.heap.size + 1, 1, none⟩ = some (.int .i64 n1) ∧ w'.cell? ⟨w.heap.size + 1, 2, none⟩ = some (.int .i64 n2) ∧ w'.cell? ⟨w.heap.size + 1, 3, none⟩ = some (.int .i64 n3)) ((first | assumption | ((refine ⟨?_, ?_⟩; (first | assumption | exact (Below.refl _ _).drew | exact Below.refl _ _); go_keep)))) (first
      | (go_at_call 17; (with_reducible refine (SA.out _).mono ?_); rintro e w11 ⟨rfl, hb11⟩; have hS := hst.out _ _ hb11 (by assumption))
      | (go_at_call 18; (with_reducible refine (SB.out _).mono ?_); rintro e w11 ⟨rfl, hb11⟩; have hS := hst.out _ _ hb11 (by assumption))
      | (go_at_call 12; (with_reducible refine (AW.out _).mono ?_); rintro e w11 ⟨rfl, hb11⟩; have hS := hst.out _ _ hb11 (by assumption)))
    all_goals
      have hbE := below_chain hS.1 hb9'
      clear hS
      go_wp2_with fail
      go_ret
      exact ⟨rfl, hbE⟩
end Go.Proofs.Ytkpkjpdhlmjchaa
