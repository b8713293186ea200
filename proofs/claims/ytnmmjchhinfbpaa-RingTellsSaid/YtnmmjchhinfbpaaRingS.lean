/- ring: the document's New. -/
import Derived.Test.YtnmmjchhinfbpaaRingJ
namespace Go.Proofs.Ytnmmjchhinfbpaa
open Go Go.RowKit Go.Deep

set_option maxHeartbeats 2000000 in
theorem refrnew_err (n : Nat) (A0 : Option Addr) (c0 : Nat) (ka kb each : Int) (w : World) (he : ringE each n ≠ 0) :
    Calls Try.prog 9 #[.slice A0 n c0, .agg #[.int .u64 ka, .int .u64 kb], .int .i64 each] w fun e w' => e = .returned (.tuple #[.slice none 0 0, .int .i64 (ringE each n)]) ∧ Below w.heap.size w w' := by
  have hb0 : Below w.heap.size w (w.alloc (.cells #[.int .u64 ka, .int .u64 kb] 25)) := below_alloc (Below.refl _ _) _
  unfold ringE at he ⊢
  by_cases h1 : each < 1
  · have d1 : decide (each < 1) = true := by simpa using h1
    rw [if_pos (.inl h1)]
    clear he
    go_enter Try.func9, Try.ntmps9
    go_wp2_with fail
    go_ret2
    exact ⟨rfl, hb0⟩
  have d1 : decide (each < 1) = false := by simpa using h1
  by_cases h2 : 64 < each
  · have d2 : decide (64 < each) = true := by simpa using h2
    rw [if_pos (.inr h2)]
    clear he
    go_enter Try.func9, Try.ntmps9
    go_wp2_with fail
    go_ret2
    exact ⟨rfl, hb0⟩
  have d2 : decide (64 < each) = false := by simpa using h2
  rw [if_neg (by omega)] at he ⊢
  by_cases h3 : n = 0
  · subst h3
    rw [if_pos rfl]
    clear he
    go_enter Try.func9, Try.ntmps9
    go_wp2_with fail
    go_ret2
    exact ⟨rfl, hb0⟩
  rw [if_neg h3] at he ⊢
  have d3 : ((n : Int) == 0) = false := by rw [beq_eq_false_iff_ne]; omega
  by_cases h4 : 64 < n
  · have d4 : decide ((64 : Int) < (n : Int)) = true := by simp; omega
    rw [if_pos h4]
    clear he
    go_enter Try.func9, Try.ntmps9
    go_wp2_with fail
    go_ret2
    exact ⟨rfl, hb0⟩
  · rw [if_neg h4] at he
    exact absurd rfl he
theorem hold3_alloc {w W : World} {p1 p2 p3 : Addr} {v1 v2 v3 : Value} (o : Obj) (h : Below w.heap.size w W ∧ W.cell? p1 = some v1 ∧ W.cell? p2 = some v2 ∧ W.cell? p3 = some v3) : Below w.heap.size w (W.alloc o) ∧ (W.alloc o).cell? p1 = some v1 ∧ (W.alloc o).cell? p2 = some v2 ∧ (W.alloc o).cell? p3 = some v3 :=
  ⟨below_alloc h.1 _, (World.cell?_alloc_some W _ _ (by rw [h.2.1]; rfl)).trans h.2.1, (World.cell?_alloc_some W _ _ (by rw [h.2.2.1]; rfl)).trans h.2.2.1, (World.cell?_alloc_some W _ _ (by rw [h.2.2.2]; rfl)).trans h.2.2.2⟩
theorem info_q : (Try.prog.info? 88).map (fun i => (i.zero, i.size, i.bytes)) = some (some (.agg #[.int .u64 0, .int .i64 0]), 2, 16) := by kernel_rfl
theorem own_q {w : World} {base c : Nat} {A : Option Addr} {l : List Pt} (h : OwnA qcell 2 88 w base A c l) {b : Nat} (hb : InB A b) : ∃ cs, Blk w b 88 cs := by
  obtain ⟨a, rfl, rfl⟩ := hb
  rcases h.2 with ⟨h1, _⟩ | ⟨g, cap, cur, h1, hg, hh, _⟩
  · simp at h1
  · simp only [Value.slice.injEq, Option.some.injEq] at h1
    obtain ⟨rfl, -⟩ := h1
    exact ⟨cur, hh⟩
theorem pushed_keeps {w wr w6 w7 : World} {A1 A2 : Option Addr} {p1 : Nat} {l : List Pt} {ka kb : Int} {q : Addr} {v : Value} (hO : OwnA qcell 2 88 w6 w.heap.size A1 p1 l) (hp : Pushed w6 w7 A1 A2) (hb : Below w.heap.size w wr) (hb6 : Below wr.heap.size wr w6)
    (hK : Blk w6 w.heap.size 25 #[.int .u64 ka, .int .u64 kb]) (hsz : w.heap.size ≤ wr.heap.size) (hc : ∀ W, Below w.heap.size w W → W.cell? q = some v) :
    (Below w.heap.size w w7 ∧ w7.cell? ⟨w.heap.size, 0, none⟩ = some (.int .u64 ka) ∧ w7.cell? ⟨w.heap.size, 1, none⟩ = some (.int .u64 kb) ∧ w7.cell? q = some v) ∧ Blk w7 w.heap.size 25 #[.int .u64 ka, .int .u64 kb] := by
  have h7 : Below w.heap.size w w7 := hp.below (below_chain hb6 hb) (Nat.le_trans hsz hb6.size) (fun b hb => (hO.block hb).1)
  have hK7 := hK.chg hp.chg (fun hI => by
    obtain ⟨cs', hc⟩ := own_q hO hI
    exact Blk.ne_ hK hc (by decide) rfl)
  have k0 := hK7.cell 0
  have k1 := hK7.cell 1
  simp only [List.getElem?_toArray, List.getElem?_cons_zero, List.getElem?_cons_succ] at k0 k1
  exact ⟨⟨h7, k0, k1, hc _ h7⟩, hK7⟩
set_option maxRecDepth 100000 in
set_option maxHeartbeats 8000000 in
theorem refrnew_some (l : List Bk) (A0 : Option Addr) (c0 : Nat) (ka kb : Int) (m : Nat) (w : World) (hr : Reads w w.heap.size 6 A0 l.length (l.flatMap Bk.cells)) (hm : 1 ≤ m ∧ m ≤ 64) (h0 : 0 < l.length) (hl : l.length ≤ 64) (hid : ∀ b ∈ l, 1 ≤ b.id ∧ b.id ≤ 65535) :
    Calls Try.prog 9 #[.slice A0 l.length c0, .agg #[.int .u64 ka, .int .u64 kb], .int .i64 m] w fun e w' => ∃ A c, e = .returned (.tuple #[.slice A (ptsOf ka kb l m).length c, .int .i64 0]) ∧ OwnA qcell 2 88 w' w.heap.size A c (ptsOf ka kb l m) ∧ Below w.heap.size w w' := by
  have hd1 : decide ((m : Int) < 1) = false := by simp; omega
  have hd2 : decide ((64 : Int) < (m : Int)) = false := by simp; omega
  have hd3 : ((l.length : Int) == 0) = false := by rw [beq_eq_false_iff_ne]; omega
  have hd4 : decide ((64 : Int) < (l.length : Int)) = false := by simp; omega
  have hb0 : Below w.heap.size w (w.alloc (.cells #[.int .u64 ka, .int .u64 kb] 25)) := below_alloc (Below.refl _ _) _
  have K0 := Blk.new w 25 #[.int .u64 ka, .int .u64 kb]
  replace hr := Lib.hid hr
  replace hid := Lib.hid hid
  go_enter Try.func9, Try.ntmps9
  go_wp2_with fail
  generalize w.alloc (.cells #[.int .u64 ka, .int .u64 kb] 25) = w2 at *
  go_loopw [8, 9] (fun ov ix wr => ∃ (k : Nat) (A : Option Addr) (p : Nat), k ≤ l.length ∧ ix = .int .i64 (k : Nat) ∧ ov = .slice A (ptsOf ka kb (l.take k) m).length p ∧ OwnA qcell 2 88 wr w.heap.size A p (ptsOf ka kb (l.take k) m) ∧ Blk wr w.heap.size 25 #[.int .u64 ka, .int .u64 kb] ∧ Below w.heap.size w wr) (fun _ ix _ => l.length - (intOf ix).toNat)
  case atStart => exact ⟨0, none, 0, by omega, rfl, rfl, OwnA.nil _ _, K0, hb0⟩
  case round =>
    obtain ⟨k, A, p, hk, rfl, rfl, hO, hK, hb⟩ := hrel
    clear K0 hb0
    by_cases hlt : k < l.length
    · have hlti : (k : Int) < (l.length : Int) := by omega
      obtain ⟨ad, b, rfl, hbl, hbk, c0, c1, c2, c3, c4, c5⟩ := bk_at (hr.out.below hb) hlt
      have hstep := ptsOf_succ ka kb l m k b hbk
      have hlen := ptsOf_len ka kb m (l.take k)
      have hlk : (l.take k).length = k := by rw [List.length_take]; omega
      obtain ⟨i1, i2⟩ := hid.out b (List.mem_of_getElem? hbk)
      obtain ⟨L, hL⟩ : ∃ L, ptsOf ka kb (l.take k) m = L := ⟨_, rfl⟩
      rw [hL] at hO hstep hlen ⊢
      have hLl : L.length ≤ 4096 := by
        rw [hlen, hlk]
        exact Nat.mul_le_mul (show k ≤ 64 by omega) hm.2
      have hrow := rowP_succ ka kb b
      have hrl := rowP_len ka kb b
      obtain ⟨bi, bw, bs, bv, bh, bo⟩ := b
      obtain ⟨id, rfl⟩ : ∃ id : Nat, bi = (id : Int) := ⟨bi.toNat, by dsimp only at i1; omega⟩
      dsimp only at *
      clear c1 c2 c3 c4 c5
      have c0w : ∀ W, Below w.heap.size w W → W.cell? (ad.add (k * 6)) = some (.int .i64 (id : Int)) := fun W h => by
        obtain ⟨ad', b', e1, _, hbk', d0, -⟩ := bk_at (hr.out.below h) hlt
        obtain rfl : ad = ad' := by simpa using e1
        rw [hbk] at hbk'
        obtain rfl := Option.some.inj hbk'
        exact d0
      replace c0w := Lib.hid c0w
      replace hbk := Lib.hid hbk
      replace hstep := Lib.hid hstep
      replace hrow := Lib.hid hrow
      replace hrl := Lib.hid hrl
      replace hL := Lib.hid hL
      replace hlen := Lib.hid hlen
      replace hO := Lib.hid hO
      clear c0
      go_wp2_with fail
      go_loopw [8, 10] (fun ov jx wx => ∃ (j : Nat) (A : Option Addr) (p : Nat), j ≤ m ∧ jx = .int .i64 (j : Nat) ∧ ov = .slice A (L.length + j) p ∧ OwnA qcell 2 88 wx w.heap.size A p (L ++ rowP ka kb ⟨id, bw, bs, bv, bh, bo⟩ j) ∧ Blk wx w.heap.size 25 #[.int .u64 ka, .int .u64 kb] ∧ Below w.heap.size w wx) (fun _ jx _ => m - (intOf jx).toNat)
      case atStart => exact ⟨0, A, p, by omega, rfl, rfl, by simpa [rowP] using hO.out, hK, hb⟩
      case round =>
        obtain ⟨j, A1, p1, hj, rfl, rfl, hO4, hK4, hb4⟩ := hrel
        clear hO hK hb
        by_cases hjt : j < m
        · have hjti : (j : Int) < (m : Int) := by omega
          have hrj := hrow.out j
          have hrl2 := hrl.out j
          have hH : ∀ z : List UInt8, octB id 2 ++ octB j 2 = z → sipHash ka kb ⟨z.toArray⟩ = ptH ka kb (id : Int) j := fun z hz => by unfold ptH; rw [← hz, Int.toNat_natCast, octB_join id j (by omega)]
          generalize hhv : ptH ka kb (id : Int) j = hv at *
          generalize hrw : rowP ka kb ⟨id, bw, bs, bv, bh, bo⟩ j = rw0 at *
          have k0 := hK4.cell 0
          have k1 := hK4.cell 1
          have b0 := c0w.out wr hb4
          simp only [List.getElem?_toArray, List.getElem?_cons_zero, List.getElem?_cons_succ] at k0 k1
          have P1 := fun n W (hn : n = (id : Int)) => refoct_putI n id 2 2 W (by omega) hn rfl (by omega)
          have P2 := fun n W (hn : n = (j : Int)) => refoct_putI n j 2 2 W (by omega) hn rfl (by omega)
          have w1 : IntKind.u64.wrap (id : Int) = (id : Int) := by simp [IntKind.wrap, IntKind.bits, IntKind.signed]; omega
          have w2 : IntKind.u64.wrap (j : Int) = (j : Int) := by simp [IntKind.wrap, IntKind.bits, IntKind.signed]; omega
          have HS := fun W => refhash_any ka kb ⟨(octB id 2 ++ octB j 2).toArray⟩ W (by simp [ByteArray.size, octB])
          rw [hH _ rfl] at HS
          have hcat : (⟨(octB id 2).toArray⟩ : ByteArray) ++ ⟨(octB j 2).toArray⟩ = ⟨(octB id 2 ++ octB j 2).toArray⟩ := by
            apply ByteArray.ext
            simp
          rw [← hcat] at HS
          have hq1 : (⟨(octB id 2).toArray⟩ : ByteArray).size = 2 := rfl
          have hq2 : (⟨(octB j 2).toArray⟩ : ByteArray).size = 2 := rfl
          generalize (⟨(octB id 2).toArray⟩ : ByteArray) = z1 at *
          generalize (⟨(octB j 2).toArray⟩ : ByteArray) = z2 at *
          have hlj : (L ++ rw0).length = L.length + j := by rw [List.length_append, hrl2]
          have hlj2 : (L ++ rw0).length ≤ 1000000 := by omega
          obtain ⟨i0, hi0, hz0, hz1, hz2⟩ := info_parts info_q
          have hsz := hb4.size
          replace P1 := Lib.hid P1
          replace P2 := Lib.hid P2
          replace HS := Lib.hid HS
          replace hO4 := Lib.hid hO4
          replace hK4 := Lib.hid hK4
          replace w1 := Lib.hid w1
          replace w2 := Lib.hid w2
          have hSide := Lib.hid (And.intro hi0 (And.intro hz0 (And.intro hz1 (And.intro hz2 (And.intro hlj (And.intro hlj2 (And.intro hb4 hsz)))))))
          clear hi0 hz0 hz1 hz2 hlj hlj2 hsz hH hcat h0 hl hd1 hd2 hd3 hd4 hid hr hbl hlk hLl i1 i2 hbk hstep hrow hrl hL hlen hk hrw hhv hrl2
          go_wp2_with fail
          have hb0w : Below w.heap.size w wr.drew := hb4.drew
          go_region_held3 (fun W => Below w.heap.size w W ∧ W.cell? ⟨w.heap.size, 0, none⟩ = some (.int .u64 ka) ∧ W.cell? ⟨w.heap.size, 1, none⟩ = some (.int .u64 kb) ∧ W.cell? (ad.add (k * 6)) = some (.int .i64 (id : Int))) ((first | assumption | ((refine ⟨?_, ?_⟩; (first | assumption | exact (Below.refl _ _).drew | exact Below.refl _ _); go_keep)))) (first
            | (go_at_call 35; (first | (with_reducible refine (P1.out _ _ (by first | rfl | exact w1.out | omega)).mono ?_) | (with_reducible refine (P2.out _ _ (by first | rfl | exact w2.out | omega)).mono ?_)); rintro e w5 ⟨rfl, hb5⟩; have hB5 : Below wr.heap.size wr w5 := (by first | exact below_chain hb5 (by assumption) | exact below_chain hb5 (Below.refl _ _).drew | exact below_chain hb5 (Below.refl _ _)); have hS5 := hold3 (by assumption) hb5)
            | (go_at_call 34; (with_reducible refine (HS.out _).mono ?_); rintro e w6 ⟨rfl, hb6⟩; have hB6 : Below wr.heap.size wr w6 := below_chain hb6 (by assumption); have hS6 := hold3 (by assumption) hb6; have hS7 := hold3_alloc (.cells #[.int .u64 hv, .int .i64 (id : Int)] 88) hS6)
            | (refine step_push qcell 2 (fun _ => rfl) qcell_one (by omega) 38 i0 _ 16 Try.underlying38 hSide.out.1 hSide.out.2.1 hSide.out.2.2.1 hSide.out.2.2.2.1 rfl (by omega) rfl (.tmp 34) (.tmp 54) rfl w.heap.size A1 p1 (L ++ rw0) (((id : Int), hv) : Pt) (L.length + j) hSide.out.2.2.2.2.1 rfl (hO4.out.call hB6) _ (by simp) rfl rfl hSide.out.2.2.2.2.2.1 (Nat.le_trans hSide.out.2.2.2.2.2.2.2 hB6.size) ?_; intro A2 p2 w7 ho7 hp7; obtain ⟨hS8, hK7⟩ := pushed_keeps (hO4.out.call hB6) hp7 hSide.out.2.2.2.2.2.2.1 hB6 ((hK4.out.call hB6)) hSide.out.2.2.2.2.2.2.2 c0w.out))
          all_goals
            rw [List.append_assoc, ← hrj] at ho7
            have hK9 := hK7
            replace ho7 := Lib.hid ho7
            replace hK7 := Lib.hid hK7
            go_wp2_with fail
            go_roundw
            case rel => exact ⟨j + 1, A2, p2, by omega, by go_num, by rw [Nat.add_assoc], ho7.out, hK7.out, hS8.1⟩
            case measure => simp [intOf]; omega
        · obtain rfl : j = m := by omega
          have hjti : ¬ (j : Int) < (j : Int) := by omega
          rw [← hstep.out] at hO4
          have hln : L.length + j = (ptsOf ka kb (l.take (k + 1)) j).length := by rw [hstep.out, List.length_append, hrl.out]
          rw [hln]
          replace hO4 := Lib.hid hO4
          replace hln := Lib.hid hln
          clear hrow hrl
          go_wp2_with fail
          go_roundw
          case rel => exact ⟨k + 1, A1, p1, by omega, by go_num, rfl, hO4.out, hK4, hb4⟩
          case measure => simp [intOf]; omega
    · obtain rfl : k = l.length := by omega
      have hlti : ¬ (l.length : Int) < (l.length : Int) := by omega
      rw [List.take_length] at hO ⊢
      replace hO := Lib.hid hO
      go_wp2_with fail
      go_ret2
      exact ⟨A, p, rfl, hO.out, hb⟩
end Go.Proofs.Ytnmmjchhinfbpaa
