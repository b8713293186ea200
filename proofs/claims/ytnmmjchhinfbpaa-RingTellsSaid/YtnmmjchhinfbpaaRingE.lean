/- ring: New. -/
import Derived.Test.YtnmmjchhinfbpaaRingD
import Derived.Test.YtnmmjchhinfbpaaRingU
namespace Go.Proofs.Ytnmmjchhinfbpaa
open Go Go.RowKit Go.Deep

set_option maxRecDepth 100000 in
set_option maxHeartbeats 8000000 in
theorem rnew_some (ver : Int) (l : List Bk) (A0 : Option Addr) (c0 : Nat) (ka kb : Int) (m : Nat) (w : World) (hr : Reads w w.heap.size 6 A0 l.length (l.flatMap Bk.cells)) (hm : 1 ≤ m ∧ m ≤ 64) (h0 : 0 < l.length) (hl : l.length ≤ 64) (hid : ∀ b ∈ l, 1 ≤ b.id ∧ b.id ≤ 65535) :
    Calls Try.prog 8 #[.agg #[.int .i64 ver, .slice A0 l.length c0], .agg #[.int .u64 ka, .int .u64 kb], .int .i64 m] w fun e w' => ∃ g S, e = .returned (.tuple #[.pointer (some ⟨g, 0, none⟩), .int .i64 0]) ∧ S.Perm (ptsOf ka kb l m) ∧ PtsOk S ∧ RingAt w' g ka kb S ∧ Below w.heap.size w w' := by
  have hd1 : decide ((m : Int) < 1) = false := by simp; omega
  have hd2 : decide ((64 : Int) < (m : Int)) = false := by simp; omega
  have hd3 : ((l.length : Int) == 0) = false := by rw [beq_eq_false_iff_ne]; omega
  have hd4 : decide ((64 : Int) < (l.length : Int)) = false := by simp; omega
  obtain ⟨w0, hw0⟩ : ∃ w0, w0 = (w.alloc (.cells #[.int .i64 ver, .slice A0 l.length c0] 37)).alloc (.cells #[.int .u64 ka, .int .u64 kb] 25) := ⟨_, rfl⟩
  have hb0 : Below w.heap.size w w0 := hw0 ▸ below_alloc (below_alloc (Below.refl _ _) _) _
  have S0 : Blk w0 w.heap.size 37 #[.int .i64 ver, .slice A0 l.length c0] := hw0 ▸ (Blk.new w _ _).alloc _
  have K0 : Blk w0 (w.heap.size + 1) 25 #[.int .u64 ka, .int .u64 kb] := by
    have := Blk.new (w.alloc (.cells #[.int .i64 ver, .slice A0 l.length c0] 37)) 25 #[.int .u64 ka, .int .u64 kb]
    rw [← hw0] at this
    simpa using this
  have s1 := S0.cell 1
  have k0 := K0.cell 0
  have k1 := K0.cell 1
  simp only [List.getElem?_toArray, List.getElem?_cons_zero, List.getElem?_cons_succ] at s1 k0 k1
  replace hr := Lib.hid hr
  replace hid := Lib.hid hid
  go_enter Try.func8, Try.ntmps8
  go_wp2_with fail
  rw [← hw0]
  have hw0s : w0.heap.size = w.heap.size + 1 + 1 := by rw [hw0]; simp
  clear hw0
  go_wp2_with fail
  have hz0 : w0.heap.size = w.heap.size + 1 + 1 := hw0s
  have R2 := Blk.new w0 77 #[.int .u64 ka, .int .u64 kb, .slice none 0 0]
  have K2 := K0.alloc (.cells #[.int .u64 ka, .int .u64 kb, .slice none 0 0] 77)
  have hb2 := below_alloc hb0 (.cells #[.int .u64 ka, .int .u64 kb, .slice none 0 0] 77)
  rw [hz0] at R2
  generalize w0.alloc (.cells #[.int .u64 ka, .int .u64 kb, .slice none 0 0] 77) = w2 at *
  obtain ⟨g, hg⟩ : ∃ g, w.heap.size + 1 + 1 = g := ⟨_, rfl⟩
  obtain ⟨gk, hgk⟩ : ∃ gk, w.heap.size + 1 = gk := ⟨_, rfl⟩
  rw [hg] at R2 ⊢
  rw [hgk] at K2 ⊢
  have hgw : w.heap.size ≤ g := by omega
  clear S0 K0 s1 k0 k1 hb0 hz0 hw0s
  go_loopw [36] (fun ix wr => ∃ (k : Nat) (A : Option Addr) (p : Nat), k ≤ l.length ∧ ix = .int .i64 (k : Nat) ∧ Blk wr g 77 #[.int .u64 ka, .int .u64 kb, .slice A (ptsOf ka kb (l.take k) m).length p] ∧ OwnA pcell 2 84 wr w.heap.size A p (ptsOf ka kb (l.take k) m) ∧ Blk wr gk 25 #[.int .u64 ka, .int .u64 kb] ∧ Below w.heap.size w wr) (fun ix _ => l.length - (intOf ix).toNat)
  case atStart => exact ⟨0, none, 0, by omega, rfl, R2, OwnA.nil _ _, K2, hb2⟩
  case round =>
    obtain ⟨k, A, p, hk, rfl, hR, hO, hK, hb⟩ := hrel
    clear R2 K2 hb2
    by_cases hlt : k < l.length
    · have hlti : (k : Int) < (l.length : Int) := by omega
      obtain ⟨ad, b, rfl, hbl, hbk, c0, c1, c2, c3, c4, c5⟩ := bk_at (hr.out.below hb) hlt
      have hstep := ptsOf_succ ka kb l m k b hbk
      have hlen := ptsOf_len ka kb m (l.take k)
      have hlk : (l.take k).length = k := by rw [List.length_take]; omega
      obtain ⟨i1, i2⟩ := hid.out b (List.mem_of_getElem? hbk)
      obtain ⟨L, hL⟩ : ∃ L, ptsOf ka kb (l.take k) m = L := ⟨_, rfl⟩
      rw [hL] at hR hO hstep hlen
      have hLl : L.length ≤ 4096 := by
        rw [hlen, hlk]
        exact Nat.mul_le_mul (show k ≤ 64 by omega) hm.2
      have hrow := rowP_succ ka kb b
      have hrl := rowP_len ka kb b
      obtain ⟨bi, bw, bs, bv, bh, bo⟩ := b
      obtain ⟨id, rfl⟩ : ∃ id : Nat, bi = (id : Int) := ⟨bi.toNat, by dsimp only at i1; omega⟩
      dsimp only at *
      replace hbk := Lib.hid hbk
      replace hstep := Lib.hid hstep
      replace hrow := Lib.hid hrow
      replace hrl := Lib.hid hrl
      replace hL := Lib.hid hL
      replace hlen := Lib.hid hlen
      replace hR := Lib.hid hR
      replace hO := Lib.hid hO
      go_wp2_with fail
      have B3 := Blk.new wr 46 #[.int .i64 (id : Int), .int .i64 bw, .int .i64 bs, .bool bv, .int .u64 bh, .int .u64 bo]
      have hR3 := hR.out.alloc (.cells #[.int .i64 (id : Int), .int .i64 bw, .int .i64 bs, .bool bv, .int .u64 bh, .int .u64 bo] 46)
      have hO3 := hO.out.alloc (.cells #[.int .i64 (id : Int), .int .i64 bw, .int .i64 bs, .bool bv, .int .u64 bh, .int .u64 bo] 46)
      have hK3 := hK.alloc (.cells #[.int .i64 (id : Int), .int .i64 bw, .int .i64 bs, .bool bv, .int .u64 bh, .int .u64 bo] 46)
      have hb3 := below_alloc hb (.cells #[.int .i64 (id : Int), .int .i64 bw, .int .i64 bs, .bool bv, .int .u64 bh, .int .u64 bo] 46)
      generalize wr.alloc (.cells #[.int .i64 (id : Int), .int .i64 bw, .int .i64 bs, .bool bv, .int .u64 bh, .int .u64 bo] 46) = w3 at *
      generalize wr.heap.size = gb at *
      clear hR hO hK hb c0 c1 c2 c3 c4 c5
      go_wp2_with fail
      go_loopw [41] (fun jx wx => ∃ (j : Nat) (A : Option Addr) (p : Nat), j ≤ m ∧ jx = .int .i64 (j : Nat) ∧ Blk wx g 77 #[.int .u64 ka, .int .u64 kb, .slice A (L.length + j) p] ∧ OwnA pcell 2 84 wx w.heap.size A p (L ++ rowP ka kb ⟨id, bw, bs, bv, bh, bo⟩ j) ∧ Blk wx gk 25 #[.int .u64 ka, .int .u64 kb] ∧ Blk wx gb 46 #[.int .i64 (id : Int), .int .i64 bw, .int .i64 bs, .bool bv, .int .u64 bh, .int .u64 bo] ∧ Below w.heap.size w wx) (fun jx _ => m - (intOf jx).toNat)
      case atStart => exact ⟨0, A, p, by omega, rfl, hR3, by simpa [rowP] using hO3, hK3, B3, hb3⟩
      case round =>
        obtain ⟨j, A1, p1, hj, rfl, hR4, hO4, hK4, B4, hb4⟩ := hrel
        clear hR3 hO3 hK3 B3 hb3
        by_cases hjt : j < m
        · have hjti : (j : Int) < (m : Int) := by omega
          have hrj := hrow.out j
          have hrl2 := hrl.out j
          have hH : ∀ q : Nat, id * 65536 + j = q → sipHash ka kb ⟨(octB q 4).toArray⟩ = ptH ka kb (id : Int) j := fun q hq => by unfold ptH; rw [Int.toNat_natCast, hq]
          generalize hhv : ptH ka kb (id : Int) j = hv at *
          generalize hrw : rowP ka kb ⟨id, bw, bs, bv, bh, bo⟩ j = rw0 at *
          go_upto_block 4 with fail
          go_cut [41] from 41 to 69 (fun s41 wx => s41 = .int .i64 (j : Nat) ∧ ∃ (A2 : Option Addr) (p2 : Nat), Blk wx g 77 #[.int .u64 ka, .int .u64 kb, .slice A2 (L.length + j + 1) p2] ∧ OwnA pcell 2 84 wx w.heap.size A2 p2 (L ++ rw0 ++ [((id : Int), hv)]) ∧ Blk wx gk 25 #[.int .u64 ka, .int .u64 kb] ∧ Blk wx gb 46 #[.int .i64 (id : Int), .int .i64 bw, .int .i64 bs, .bool bv, .int .u64 bh, .int .u64 bo] ∧ Below w.heap.size w wx)
          case first =>
            have b0 := B4.cell 0
            simp only [List.getElem?_toArray, List.getElem?_cons_zero] at b0
            go_upto_region 15 with fail
            have hij := id_j id j (by omega) (by omega)
            obtain ⟨q, hq⟩ : ∃ q : Nat, id * 65536 + j = q := ⟨_, rfl⟩
            replace hH := hH q hq
            rw [hq] at hij
            rw [hij]
            clear hij b0 hq
            have PT : ∀ W, Calls Try.prog 31 #[.int .u64 (q : Int), .int .i64 4] W fun e w' => e = .returned (.string ⟨(octB q 4).toArray⟩) ∧ Below W.heap.size W w' := fun W => oct_put q 4 W (by omega) (by omega)
            have HS := fun W => hash_any ka kb ⟨(octB q 4).toArray⟩ W (by simp [ByteArray.size, octB])
            rw [hH] at HS
            generalize (⟨(octB q 4).toArray⟩ : ByteArray) = z at *
            have hlj : (L ++ rw0).length = L.length + j := by rw [List.length_append, hrl2]
            have hlj2 : (L ++ rw0).length ≤ 1000000 := by omega
            obtain ⟨i0, hi0, hz0, hz1, hz2⟩ := info_parts info_pt
            have hng : ∀ cs : Array Value, ∀ W : World, ∀ b t, Blk W b t cs → t ≠ 84 → OwnA pcell 2 84 W w.heap.size A1 p1 (L ++ rw0) → ¬ InB A1 b := fun cs W b t hB ht hO hI => by
              obtain ⟨cs', hc⟩ := own_pt hO hI
              exact Blk.ne_ hB hc ht rfl
            have r2 := hR4.cell 2
            have b0 := B4.cell 0
            have k0 := hK4.cell 0
            have k1 := hK4.cell 1
            simp only [List.getElem?_toArray, List.getElem?_cons_zero, List.getElem?_cons_succ] at r2 b0 k0 k1
            have F : ∀ W, Below wr.heap.size wr W → W.cell? ⟨g, 2, none⟩ = some (.slice A1 (L.length + j) p1) ∧ W.cell? ⟨gb, 0, none⟩ = some (.int .i64 (id : Int)) ∧ W.cell? ⟨gk, 0, none⟩ = some (.int .u64 ka) ∧ W.cell? ⟨gk, 1, none⟩ = some (.int .u64 kb) := fun W hb => ⟨(hb.cell (block_lt_of_cell r2)).trans r2, (hb.cell (block_lt_of_cell b0)).trans b0, (hb.cell (block_lt_of_cell k0)).trans k0, (hb.cell (block_lt_of_cell k1)).trans k1⟩
            replace F := Lib.hid F
            replace PT := Lib.hid PT
            replace HS := Lib.hid HS
            replace hO4 := Lib.hid hO4
            replace hng := Lib.hid hng
            replace hR4 := Lib.hid hR4
            replace hK4 := Lib.hid hK4
            replace B4 := Lib.hid B4
            have hSide := Lib.hid (And.intro hi0 (And.intro hz0 (And.intro hz1 (And.intro hz2 (And.intro hlj (And.intro hlj2 (And.intro hb4 hgw)))))))
            clear hi0 hz0 hz1 hz2 hlj hlj2 hb4 hgw hm h0 hl hd1 hd2 hd3 hd4 hid hg hgk hk hlt hlti hr hbl hlk hLl i1 i2 hbk hstep hrow hrl hL hlen hj hjt hjti hrl2 hH hrj hrw hhv
            go_region_law (first
              | (refine step_push pcell 2 (fun _ => rfl) pcell_one (by omega) 75 i0 _ 16 Try.underlying75 hSide.out.1 hSide.out.2.1 hSide.out.2.2.1 hSide.out.2.2.2.1 rfl (by omega) rfl (.tmp 56) (.tmp 65) rfl w.heap.size A1 p1 (L ++ rw0) (((id : Int), hv) : Pt) (L.length + j) hSide.out.2.2.2.2.1 rfl (hO4.out.call hB6) _ (by simp) rfl rfl hSide.out.2.2.2.2.2.1 (Nat.le_trans hSide.out.2.2.2.2.2.2.1.size hB6.size) ?_; intro A2 p2 w7 ho7 hp7; have hO6 := hO4.out.call hB6; have hR7 := (hR4.out.call hB6).chg hp7.chg (hng.out _ _ _ _ (hR4.out.call hB6) (by decide) hO6); have r7 := hR7.cell 2; have f7 := hR7.frozen 2; replace hR7 := Lib.hid hR7; replace hp7 := Lib.hid hp7; replace ho7 := Lib.hid ho7; replace hO6 := Lib.hid hO6; simp only [List.getElem?_toArray, List.getElem?_cons_zero, List.getElem?_cons_succ] at r7)
              | (go_simp; go_at_call 31; (with_reducible refine (PT.out _).mono ?_); rintro e w5 ⟨rfl, hb5⟩; have hB5 : Below wr.heap.size wr w5 := ⟨hb5.os, hb5.tape, hb5.output, hb5.size, hb5.block⟩; clear hb5; obtain ⟨r5, b5, k5, k6⟩ := F.out w5 hB5)
              | (go_simp; go_at_call 30; (with_reducible refine (HS.out _).mono ?_); rintro e w6 ⟨rfl, hb6⟩; have hB6 := below_chain hb6 hB5; clear hb6; obtain ⟨r6, b6, k7, k8⟩ := F.out w6 hB6; have r8 : (w6.alloc (.cells #[.int .i64 (id : Int), .int .u64 hv] 84)).cell? ⟨g, 2, none⟩ = some (.slice A1 (L.length + j) p1) := (World.cell?_alloc_some w6 _ _ (by rw [r6]; rfl)).trans r6))
            all_goals
              go_wp2_with fail
              go_meet
              have hK7 := (hK4.out.call hB6).chg hp7.out.chg (hng.out _ _ _ _ (hK4.out.call hB6) (by decide) hO6.out)
              have B7 := (B4.out.call hB6).chg hp7.out.chg (hng.out _ _ _ _ (B4.out.call hB6) (by decide) hO6.out)
              have hb7 : Below w.heap.size w w7 := hp7.out.below (below_chain hB6 hSide.out.2.2.2.2.2.2.1) (Nat.le_trans hSide.out.2.2.2.2.2.2.1.size hB6.size) (fun b hb => (hO6.out.block hb).1)
              have hn7 : ¬ InB A2 g := fun hi => by
                obtain ⟨cs', hc⟩ := own_pt ho7.out hi
                exact Blk.ne_ hR7.out hc (by decide) rfl
              exact ⟨rfl, A2, p2, by simpa using hR7.out.set_ 2 (.slice A2 (L.length + j + 1) p2), ho7.out.far (p := ⟨g, 2, none⟩) hn7 _, hK7.far (p := ⟨g, 2, none⟩) (Blk.ne_ hK7 hR7.out (by decide)) _, B7.far (p := ⟨g, 2, none⟩) (Blk.ne_ B7 hR7.out (by decide)) _, hb7.setCell hSide.out.2.2.2.2.2.2.2 _⟩
          case rest =>
            obtain ⟨rfl, A2, p2, q1, q2, q3, q4, q5⟩ := hcut
            clear hR4 hO4 hK4 B4 hb4
            go_wp2_with fail
            go_roundw
            case rel => exact ⟨j + 1, A2, p2, by omega, by go_num, q1, by rw [hrj, ← List.append_assoc]; exact q2, q3, q4, q5⟩
            case measure => simp [intOf]; omega
        · obtain rfl : j = m := by omega
          have hjti : ¬ (j : Int) < (j : Int) := by omega
          rw [← hstep.out] at hO4
          have hln : L.length + j = (ptsOf ka kb (l.take (k + 1)) j).length := by rw [hstep.out, List.length_append, hrl.out]
          rw [hln] at hR4
          replace hR4 := Lib.hid hR4
          replace hO4 := Lib.hid hO4
          replace hln := Lib.hid hln
          clear hrow hrl
          go_wp2_with fail
          go_roundw
          case rel => exact ⟨k + 1, A1, p1, by omega, by go_num, hR4.out, hO4.out, hK4, hb4⟩
          case measure => simp [intOf]; omega
    · obtain rfl : k = l.length := by omega
      have hlti : ¬ (l.length : Int) < (l.length : Int) := by omega
      rw [List.take_length] at hR hO
      have hPl := ptsOf_len ka kb m l
      have hPr := ptsOf_rg ka kb m l
      have hP0 : 0 < (ptsOf ka kb l m).length := by rw [hPl]; exact Nat.mul_pos h0 (by omega)
      have hP1 : (ptsOf ka kb l m).length ≤ 4096 := by rw [hPl]; exact Nat.mul_le_mul hl hm.2
      generalize hPLe : ptsOf ka kb l m = PL at *
      replace hPLe := Lib.hid hPLe
      obtain ⟨gp, cap, hfv, hgp, hgl⟩ := (show wr.ownsRow w.heap.size 84 2 (.slice A PL.length p) PL.length (PL.flatMap pcell) from hO).form hP0
      obtain ⟨rfl, rfl⟩ : A = some ⟨gp, 0, none⟩ ∧ p = cap := by
        simp only [Value.slice.injEq] at hfv
        exact ⟨hfv.1, hfv.2.2⟩
      have SO := sort_any hO hgl (by omega)
      have r2 := hR.cell 2
      simp only [List.getElem?_toArray, List.getElem?_cons_zero, List.getElem?_cons_succ] at r2
      have hgne : ¬ g = gp := by
        obtain ⟨cs', hc⟩ := own_pt hO ⟨_, rfl, rfl⟩
        exact Blk.ne_ hR hc (by decide)
      replace SO := Lib.hid SO
      replace hO := Lib.hid hO
      replace hPl := Lib.hid hPl
      clear hfv hK
      go_wp2_with fail
      refine SO.out.mono ?_
      rintro e w9 ⟨rfl, S, k1, k2, k3, k4⟩
      have hb9 := below_chg hb k4 (fun b hb' e => by omega) hb.size
      have hR9 := hR.chg k4 hgne
      have hSl : S.length = PL.length := k1.length_eq
      go_wp2_with fail
      go_ret2
      refine ⟨g, S, rfl, by rw [hPLe.out]; exact k1, ⟨by omega, by omega, k2, fun p hp => hPr p (k1.mem_iff.1 hp)⟩, ⟨⟨gp, 0, none⟩, p, ?_, k3⟩, hb9⟩
      rw [hSl]
      exact hR9
end Go.Proofs.Ytnmmjchhinfbpaa
