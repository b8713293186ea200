/- shift's reference: Of. -/
import Derived.Test.YtkpkjpdhlmjchaaMagN
import Derived.Test.YtkpkjpdhlmjchaaEligB
namespace Go.Proofs.Ytkpkjpdhlmjchaa
open Go Go.RowKit Go.Deep

abbrev mvArr (a b c d : Int) : Array Value := #[.int .i64 a, .int .i64 b, .int .i64 c, .int .i64 d]
theorem blk_set4 {w : World} {g : Nat} {t : TypeId} {c0 c1 c2 c3 a0 a1 a2 a3 : Value} (h : Blk w g t #[c0, c1, c2, c3]) :
    Blk ((((w.setCell ⟨g, 0, none⟩ a0).setCell ⟨g, 1, none⟩ a1).setCell ⟨g, 2, none⟩ a2).setCell ⟨g, 3, none⟩ a3) g t #[a0, a1, a2, a3] := by
  simpa using (((h.set_ 0 a0).set_ 1 a1).set_ 2 a2).set_ 3 a3
theorem Blk.four {w : World} {g : Nat} {t : TypeId} {c0 c1 c2 c3 : Value} (h : Blk w g t #[c0, c1, c2, c3]) :
    (w.cell? ⟨g, 0, none⟩ = some c0 ∧ w.cell? ⟨g, 1, none⟩ = some c1 ∧ w.cell? ⟨g, 2, none⟩ = some c2 ∧ w.cell? ⟨g, 3, none⟩ = some c3) ∧
      w.frozen? ⟨g, 0, none⟩ = false ∧ w.frozen? ⟨g, 1, none⟩ = false ∧ w.frozen? ⟨g, 2, none⟩ = false ∧ w.frozen? ⟨g, 3, none⟩ = false :=
  ⟨⟨h.cell 0, h.cell 1, h.cell 2, h.cell 3⟩, h.frozen 0, h.frozen 1, h.frozen 2, h.frozen 3⟩
set_option maxRecDepth 100000 in
set_option maxHeartbeats 8000000 in
theorem refof_some (l : List Bk) (A : Option Addr) (c : Nat) (o : List Bk) (B : Option Addr) (d : Nat) (ka kb : Int) (m : Nat) (w : World) (hr : Reads w w.heap.size 6 A l.length (l.flatMap Bk.cells)) (ho : Reads w w.heap.size 6 B o.length (o.flatMap Bk.cells)) (hm : m = 13 ∨ m = 251) (h0 : 0 < l.length) (hlm : l.length ≤ m) (h0o : 0 < o.length) (hom : o.length ≤ m)
    (hid : ∀ b ∈ l, 1 ≤ b.id ∧ b.id ≤ 65535) (hido : ∀ b ∈ o, 1 ≤ b.id ∧ b.id ≤ 65535) (P Q : List Int) (hP : tableOf ka kb m (l.map Bk.id) = P) (hQ : tableOf ka kb m (o.map Bk.id) = Q) :
    Calls Try.prog 14 #[.slice A l.length c, .slice B o.length d, .agg #[.int .u64 ka, .int .u64 kb], .int .i64 (m : Int)] w fun e w' => e = .returned (.tuple #[.agg (mvArr m (mvC P Q m : Nat) (muC (hasB o) P Q m : Nat) ((mvC P Q m - muC (hasB o) P Q m : Nat))), .int .i64 0]) ∧ Below w.heap.size w w' := by
  have N1 := fun W hr => refnew_some l A c ka kb m W hr hm h0 hlm hid
  have N2 := fun W hr => refnew_some o B d ka kb m W hr hm h0o hom hido
  rw [hP] at N1
  rw [hQ] at N2
  have HS := fun id W hr => ref24_has o B d id W hr (by omega)
  have hmb : m ≤ 251 := by omega
  obtain ⟨w0, hw0⟩ : ∃ w0, w0 = (w.alloc (.cells #[.int .u64 ka, .int .u64 kb] 25)).alloc (.cells (mvArr 0 0 0 0) 27) := ⟨_, rfl⟩
  have hb0 : Below w.heap.size w w0 := hw0 ▸ below_alloc (below_alloc (Below.refl _ _) _) _
  have K0 : Blk w0 w.heap.size 25 #[.int .u64 ka, .int .u64 kb] := hw0 ▸ (Blk.new w _ _).alloc _
  have R0 : Blk w0 (w.heap.size + 1) 27 (mvArr 0 0 0 0) := by
    have := Blk.new (w.alloc (.cells #[.int .u64 ka, .int .u64 kb] 25)) 27 (mvArr 0 0 0 0)
    rw [← hw0] at this
    simpa using this
  have hr0 : Reads w0 w0.heap.size 6 A l.length (l.flatMap Bk.cells) := (hr.below hb0).more hb0.size
  have ho0 : Reads w0 w0.heap.size 6 B o.length (o.flatMap Bk.cells) := (ho.below hb0).more hb0.size
  have k0 := K0.cell 0
  have k1 := K0.cell 1
  simp at k0 k1
  replace N1 := Lib.hid N1
  replace N2 := Lib.hid N2
  replace HS := Lib.hid HS
  replace hP := Lib.hid hP
  replace hQ := Lib.hid hQ
  clear hr ho hid hido
  go_enter Try.func14, Try.ntmps14
  go_wp2_with fail
  rw [← hw0]
  clear hw0
  refine (N1.out _ hr0).mono ?_
  rintro e w1 ⟨gp, rfl, hP1, hgp, hb1⟩
  have hbA := below_chain hb1 hb0
  have K1 := K0.call hb1
  have R1 := R0.call hb1
  have ho1 := (ho0.below hb1).more hb1.size
  have hzA := hbA.size
  have hz0 := hb0.size
  clear hb1 hb0 K0 R0 hr0 ho0 k0 k1 N1
  have k0 := K1.cell 0
  have k1 := K1.cell 1
  simp at k0 k1
  go_wp2_with fail
  refine (N2.out _ ho1).mono ?_
  rintro e w2 ⟨gq, rfl, hQ2, hgq, hb2⟩
  have hbB := below_chain hb2 hbA
  have R2 := R1.call hb2
  have hP2 : PlAt w2 gp m P := hP1.of_block (hb2.block gp hP1.lt)
  have ho2 := (ho1.below hb2).more hb2.size
  have hpl := hP2.lt
  have hql := hQ2.lt
  clear hb2 hbA K1 R1 hP1 ho1 k0 k1 N2
  go_wp2_with fail
  have hbC := below_alloc hbB (.cells (mvArr m 0 0 0) 27)
  have X3 : Blk (w2.alloc (.cells (mvArr m 0 0 0) 27)) w2.heap.size 27 (mvArr m 0 0 0) := Blk.new w2 _ _
  have R3 := R2.alloc (.cells (mvArr m 0 0 0) 27)
  have hP3 := hP2.alloc (.cells (mvArr m 0 0 0) 27)
  have hQ3 := hQ2.alloc (.cells (mvArr m 0 0 0) 27)
  have ho3 : Reads (w2.alloc (.cells (mvArr m 0 0 0) 27)) w2.heap.size 6 B o.length (o.flatMap Bk.cells) := ho2.alloc (Nat.le_refl _) _
  have hzB := hbB.size
  have hxr : w.heap.size + 1 ≠ w2.heap.size := by have := R2.lt; omega
  clear R2 hP2 hQ2 ho2 hbB
  generalize (w2.alloc (.cells (mvArr m 0 0 0) 27)) = w3 at *
  generalize w2.heap.size = gx at *
  go_loopw [14] (fun i wr => ∃ k : Nat, k ≤ m ∧ i = .int .i64 (k : Int) ∧ Blk wr gx 27 (mvArr m (mvC P Q k : Nat) (muC (hasB o) P Q k : Nat) ((mvC P Q k - muC (hasB o) P Q k : Nat))) ∧ Blk wr (w.heap.size + 1) 27 (mvArr 0 0 0 0) ∧ PlAt wr gp m P ∧ PlAt wr gq m Q ∧ Reads wr gx 6 B o.length (o.flatMap Bk.cells) ∧ Below w.heap.size w wr) (fun i _ => m - (intOf i).toNat)
  case atStart => exact ⟨0, by omega, rfl, X3, R3, hP3, hQ3, ho3, hbC⟩
  case round =>
    obtain ⟨k, hk, rfl, hX, hR, hPr, hQr, hor, hb⟩ := hrel
    clear X3 R3 hP3 hQ3 ho3 hbC
    by_cases hlt : k < m
    · have hlti : (k : Int) < (m : Int) := by omega
      have d1 := hPr.cell hlt
      have d2 := hQr.cell hlt
      have hst := mvC_succ P Q k
      have hsu := muC_succ (hasB o) P Q k
      have hle := mvC_le P Q k
      have hle2 := muC_le (hasB o) P Q k
      obtain ⟨x, hx⟩ : ∃ x, P.getD k 0 = x := ⟨_, rfl⟩
      obtain ⟨y, hy⟩ : ∃ y, Q.getD k 0 = y := ⟨_, rfl⟩
      rw [hx] at d1 hst hsu
      rw [hy] at d2 hst hsu
      have hxy : (x != y) = !(x == y) := rfl
      rw [hxy] at hst hsu
      obtain ⟨z, hz⟩ : ∃ z, (x == y) = z := ⟨_, rfl⟩
      rw [hz] at hst hsu
      have hX1 : Blk wr.drew gx _ _ := hX
      have hR1 : Blk wr.drew (w.heap.size + 1) _ _ := hR
      have hP1 : PlAt wr.drew gp m P := hPr
      have hQ1 : PlAt wr.drew gq m Q := hQr
      have ho1 : Reads wr.drew gx 6 B o.length (o.flatMap Bk.cells) := hor
      have hb1 : Below w.heap.size w wr.drew := hb.drew
      have H := HS.out x wr.drew (ho1.more (Nat.le_of_lt hX1.lt))
      obtain ⟨hh, hhe⟩ : ∃ b, hasB o x = b := ⟨_, rfl⟩
      rw [hhe] at H hsu
      generalize mvC P Q k = mv at *
      generalize muC (hasB o) P Q k = mu at *
      replace hx := Lib.hid hx
      replace hy := Lib.hid hy
      replace hhe := Lib.hid hhe
      replace H := Lib.hid H
      clear hX hR hPr hQr hor hb hxy
      cases z
      · simp only [Bool.not_false, Bool.true_and, if_true] at hst hsu
        have hf : ∀ (W : World) (a b c : Int), Blk W gx 27 (mvArr m a b c) → (W.cell? ⟨gx, 1, none⟩ = some (.int .i64 a) ∧ W.cell? ⟨gx, 2, none⟩ = some (.int .i64 b) ∧ W.cell? ⟨gx, 3, none⟩ = some (.int .i64 c)) ∧ W.frozen? ⟨gx, 1, none⟩ = false ∧ W.frozen? ⟨gx, 2, none⟩ = false ∧ W.frozen? ⟨gx, 3, none⟩ = false := fun W a b c h => ⟨⟨h.cell 1, h.cell 2, h.cell 3⟩, h.frozen 1, h.frozen 2, h.frozen 3⟩
        obtain ⟨⟨a1, a2, a3⟩, q1, q2, q3⟩ := hf _ _ _ _ hX1
        replace hst := Lib.hid hst
        replace hsu := Lib.hid hsu
        replace hf := Lib.hid hf
        have hfar : ∀ (i : Nat) (u : Value), PlAt (wr.drew.setCell ⟨gx, i, none⟩ u) gp m P ∧ PlAt (wr.drew.setCell ⟨gx, i, none⟩ u) gq m Q := fun i u => ⟨hP1.setOther (a := ⟨gx, i, none⟩) (by show gp ≠ gx; omega) u, hQ1.setOther (a := ⟨gx, i, none⟩) (by show gq ≠ gx; omega) u⟩
        replace hfar := Lib.hid hfar
        have hX2 : ∀ v : Int, Blk (wr.drew.setCell ⟨gx, 1, none⟩ (.int .i64 v)) gx 27 (mvArr m v mu ((mv - mu : Nat))) := fun v => by simpa using hX1.set_ 1 (.int .i64 v)
        have hR2 := fun u => hR1.far (p := ⟨gx, 1, none⟩) hxr u
        have ho2 : ∀ u, Reads (wr.drew.setCell ⟨gx, 1, none⟩ u) gx 6 B o.length (o.flatMap Bk.cells) := fun u => ho1.keep fun p hp => World.cell?_of_block (Below.heap_setCell wr.drew ⟨gx, 1, none⟩ u _ (by show p.block ≠ gx; omega))
        have hb2 := fun u => hb1.setCell (p := ⟨gx, 1, none⟩) hzB u
        have hne1 : gp ≠ gx := by omega
        have hne2 : gq ≠ gx := by omega
        replace hX2 := Lib.hid hX2
        replace hR2 := Lib.hid hR2
        replace ho2 := Lib.hid ho2
        replace hb2 := Lib.hid hb2
        have e1 : IntKind.i64.wrap ((mv : Int) + 1) = (mv : Int) + 1 := IntWalk.i64_in _ (by omega)
        go_wp2_with fail
        go_region
        generalize wr.drew = w4 at *
        have d3 := hP1.cell hlt
        rw [hx.out] at d3
        go_wp2_with fail
        have hX3 := hX2.out ((mv : Int) + 1)
        have hR3 := hR2.out (.int .i64 ((mv : Int) + 1))
        have ho3 := ho2.out (.int .i64 ((mv : Int) + 1))
        have hb3 := hb2.out (.int .i64 ((mv : Int) + 1))
        obtain ⟨hP3, hQ3⟩ := hfar.out 1 (.int .i64 ((mv : Int) + 1))
        clear hX2 hR2 ho2 hb2 hfar hX1 hR1 ho1 hb1 hP1 hQ1 d1 d2 d3 H a1 a2 a3 q1 q2 q3 e1
        generalize (w4.setCell ⟨gx, 1, none⟩ (.int .i64 ((mv : Int) + 1))) = w5 at *
        have H := HS.out x w5 (ho3.more (Nat.le_of_lt hX3.lt))
        rw [hhe.out] at H
        refine H.mono ?_
        rintro e w6 ⟨rfl, rfl⟩
        obtain ⟨⟨a1, a2, a3⟩, q1, q2, q3⟩ := hf.out _ _ _ _ hX3
        have h2 := hX3.set_ 2 (.int .i64 ((mu : Int) + 1))
        have h3 := hX3.set_ 3 (.int .i64 (((mv - mu : Nat) : Int) + 1))
        have r2 := hR3.far (p := ⟨gx, 2, none⟩) hxr (.int .i64 ((mu : Int) + 1))
        have r3 := hR3.far (p := ⟨gx, 3, none⟩) hxr (.int .i64 (((mv - mu : Nat) : Int) + 1))
        have p2 := hP3.setOther (a := ⟨gx, 2, none⟩) hne1 (.int .i64 ((mu : Int) + 1))
        have p3 := hP3.setOther (a := ⟨gx, 3, none⟩) hne1 (.int .i64 (((mv - mu : Nat) : Int) + 1))
        have t2 := hQ3.setOther (a := ⟨gx, 2, none⟩) hne2 (.int .i64 ((mu : Int) + 1))
        have t3 := hQ3.setOther (a := ⟨gx, 3, none⟩) hne2 (.int .i64 (((mv - mu : Nat) : Int) + 1))
        have o2 : Reads (w5.setCell ⟨gx, 2, none⟩ (.int .i64 ((mu : Int) + 1))) gx 6 B o.length (o.flatMap Bk.cells) := ho3.keep fun p hp => World.cell?_of_block (Below.heap_setCell w5 ⟨gx, 2, none⟩ _ _ (by show p.block ≠ gx; omega))
        have o3 : Reads (w5.setCell ⟨gx, 3, none⟩ (.int .i64 (((mv - mu : Nat) : Int) + 1))) gx 6 B o.length (o.flatMap Bk.cells) := ho3.keep fun p hp => World.cell?_of_block (Below.heap_setCell w5 ⟨gx, 3, none⟩ _ _ (by show p.block ≠ gx; omega))
        have b2 := hb3.setCell (p := ⟨gx, 2, none⟩) hzB (.int .i64 ((mu : Int) + 1))
        have b3 := hb3.setCell (p := ⟨gx, 3, none⟩) hzB (.int .i64 (((mv - mu : Nat) : Int) + 1))
        clear hX3 hR3 ho3 hb3 hP3 hQ3
        cases hh
        · go_wp2_with fail
          go_roundw
          case rel =>
            refine ⟨k + 1, by omega, by go_num, ?_, r2, p2, t2, o2, b2⟩
            rw [hst.out, hsu.out]
            simp only [Bool.not_false, if_true]
            have e : ((mv + 1 - (mu + 1) : Nat) : Int) = ((mv - mu : Nat) : Int) := by omega
            rw [e]
            simpa using h2
          case measure => simp [intOf]; omega
        · go_wp2_with fail
          go_roundw
          case rel =>
            refine ⟨k + 1, by omega, by go_num, ?_, r3, p3, t3, o3, b3⟩
            rw [hst.out, hsu.out]
            simp only [Bool.not_true, Bool.false_eq_true, if_false, Nat.add_zero]
            have e : ((mv + 1 - mu : Nat) : Int) = ((mv - mu : Nat) : Int) + 1 := by omega
            rw [e]
            simpa using h3
          case measure => simp [intOf]; omega
      · simp only [Bool.not_true, Bool.false_and, Bool.false_eq_true, if_false, Nat.add_zero] at hst hsu
        replace hst := Lib.hid hst
        replace hsu := Lib.hid hsu
        clear H
        go_wp2_with fail
        go_region
        go_wp2_with fail
        go_roundw
        case rel => exact ⟨k + 1, by omega, by go_num, by rw [hst.out, hsu.out]; exact hX1, hR1, hP1, hQ1, ho1, hb1⟩
        case measure => simp [intOf]; omega
    · obtain rfl : k = m := by omega
      have hlti : ¬ (k : Int) < (k : Int) := by omega
      obtain ⟨⟨a0, a1, a2, a3⟩, q0, q1, q2, q3⟩ := hX.four
      obtain ⟨⟨b0, b1, b2, b3⟩, s0, s1, s2, s3⟩ := hR.four
      have hfin := blk_set4 (a0 := .int .i64 (k : Int)) (a1 := .int .i64 ((mvC P Q k : Nat) : Int)) (a2 := .int .i64 ((muC (hasB o) P Q k : Nat) : Int)) (a3 := .int .i64 ((mvC P Q k - muC (hasB o) P Q k : Nat) : Int)) hR
      obtain ⟨⟨f0, f1, f2, f3⟩, -⟩ := hfin.four
      clear hX hR hfin
      go_wp2_with fail
      refine bodyPost_ret (v := .tuple #[.agg (mvArr k (mvC P Q k : Nat) (muC (hasB o) P Q k : Nat) ((mvC P Q k - muC (hasB o) P Q k : Nat))), .int .i64 0]) (by simp [results, Try.results14, go_sem, f0, f1, f2, f3]) rfl ?_
      exact ⟨rfl, (((hb.setCell (by simp) _).setCell (by simp) _).setCell (by simp) _).setCell (by simp) _⟩
end Go.Proofs.Ytkpkjpdhlmjchaa
