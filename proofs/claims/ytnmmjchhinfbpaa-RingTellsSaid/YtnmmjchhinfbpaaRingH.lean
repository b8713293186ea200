/- ring: the law RingGoes, called. -/
import Derived.Test.YtnmmjchhinfbpaaRingG
namespace Go.Proofs.Ytnmmjchhinfbpaa
open Go Go.RowKit Go.Deep

theorem rkRight_lt {l : List Bk} (h : bkRight l) : ∀ d i : Nat, (hi : i + d + 1 < l.length) → (l[i]'(by omega)).id < (l[i + d + 1]).id
  | 0, i, hi => by
    have := (h.2 (i + 1) _ (List.getElem?_eq_getElem hi)).2.2.2.2 (by omega) (l[i]'(by omega)) (by rw [show i + 1 - 1 = i by omega]; exact List.getElem?_eq_getElem (by omega))
    exact this
  | d + 1, i, hi => by
    have h1 := rkRight_lt h d i (by omega)
    have h2 := (h.2 (i + (d + 1) + 1) _ (List.getElem?_eq_getElem hi)).2.2.2.2 (by omega) (l[i + d + 1]'(by omega)) (by rw [show i + (d + 1) + 1 - 1 = i + d + 1 by omega]; exact List.getElem?_eq_getElem (by omega))
    omega
theorem rkRight_nodup {l : List Bk} (h : bkRight l) : (l.map Bk.id).Nodup := by
  rw [List.nodup_iff_pairwise_ne, List.pairwise_iff_getElem]
  intro i j hi hj hij
  rw [List.length_map] at hi hj
  obtain ⟨d, rfl⟩ : ∃ d, j = i + d + 1 := ⟨j - i - 1, by omega⟩
  have := rkRight_lt h d i hj
  simp only [List.getElem_map]
  omega
theorem rkRight_ids {l : List Bk} (h : bkRight l) : ∀ b ∈ l, 1 ≤ b.id ∧ b.id ≤ 65535 := by
  intro b hb
  obtain ⟨j, hj, rfl⟩ := List.getElem_of_mem hb
  have := h.2 j _ (List.getElem?_eq_getElem hj)
  exact ⟨this.1, this.2.1⟩
theorem own_bkR {w : World} {base c : Nat} {A : Option Addr} {l : List Bk} (h : OwnA Bk.cells 6 46 w base A c l) {b : Nat} (hb : InB A b) : ∃ cs, Blk w b 46 cs := by
  obtain ⟨a, rfl, rfl⟩ := hb
  rcases h.2 with ⟨h1, _⟩ | ⟨g, cap, cur, h1, hg, hh, _⟩
  · simp at h1
  · simp only [Value.slice.injEq, Option.some.injEq] at h1
    obtain ⟨rfl, -⟩ := h1
    exact ⟨cur, hh⟩
theorem lessL_len {l : List Bk} {i : Nat} (h : i < l.length) : (lessL l i).length = i + (l.length - (i + 1)) := by
  unfold lessL
  rw [List.length_append, List.length_take, List.length_drop]
  omega
theorem info_bkR : (Try.prog.info? 46).map (fun i => (i.zero, i.size, i.bytes)) = some (some (.agg #[.int .i64 0, .int .i64 0, .int .i64 0, .bool false, .int .u64 0, .int .u64 0]), 6, 48) := by kernel_rfl
set_option maxRecDepth 100000 in
set_option maxHeartbeats 16000000 in
theorem ringGoes_calls (l : List Bk) (A : Option Addr) (c : Nat) (ka kb : Int) (ea aa : Nat) (n : Int) (t : Tup) (w : World) (hr : Reads w w.heap.size 6 A l.length (l.flatMap Bk.cells)) (hl : l.length ≤ 9223372036854775807) (hc : l.length ≤ c) (hea : ea < 256) (haa : aa < 256) :
    Calls Try.prog 4 #[.slice A l.length c, .agg #[.int .u64 ka, .int .u64 kb], .int .u8 (ea : Int), .int .u8 (aa : Int), .int .u64 n, t.val] w fun e w' => e = .returned (.bool true) ∧ Below w.heap.size w w' := by
  obtain ⟨w0, hw0⟩ : ∃ w0, w0 = (w.alloc (.cells #[.int .u64 ka, .int .u64 kb] 25)).alloc (.cells t.cells.toArray 29) := ⟨_, rfl⟩
  have hb0 : Below w.heap.size w w0 := hw0 ▸ below_alloc (below_alloc (Below.refl _ _) _) _
  have K0 : Blk w0 w.heap.size 25 #[.int .u64 ka, .int .u64 kb] := hw0 ▸ (Blk.new w _ _).alloc _
  have T0 : Blk w0 (w.heap.size + 1) 29 t.cells.toArray := by
    have := Blk.new (w.alloc (.cells #[.int .u64 ka, .int .u64 kb] 25)) 29 t.cells.toArray
    rw [← hw0] at this
    simpa using this
  have RR := fun W (hb : Below w.heap.size w W) => ref24_right l A c W ((hr.below hb).more hb.size) hl
  have PK := fun W (g : Nat) (S : List Pt) (h : RingAt W g ka kb S) (ok : PtsOk S) => rpick_any t h ok
  generalize sipHash ka kb ⟨(tupPut t).toArray⟩ = hN at *
  obtain ⟨t1, t2, t3, t4, t5, t6, t7, t8, t9⟩ := t
  unfold Tup.val at *
  dsimp only at *
  replace RR := Lib.hid RR
  replace PK := Lib.hid PK
  replace hr := Lib.hid hr
  by_cases h12 : 12 < l.length
  · have d1 : decide ((12 : Int) < (l.length : Int)) = true := by simp; omega
    go_enter Try.func4, Try.ntmps4
    go_wp2_with fail
    rw [← hw0]
    refine (awake51 _).mono ?_
    rintro e w2 ⟨rfl, hb2⟩
    have hb3 := below_chain hb2 hb0
    go_wp2_with fail
    go_ret
    exact ⟨rfl, hb3⟩
  have d1 : decide ((12 : Int) < (l.length : Int)) = false := by simp; omega
  by_cases h2 : l.length < 2
  · have d2 : decide ((l.length : Int) < 2) = true := by simp; omega
    go_enter Try.func4, Try.ntmps4
    go_wp2_with fail
    rw [← hw0]
    refine (awake51 _).mono ?_
    rintro e w2 ⟨rfl, hb2⟩
    have hb3 := below_chain hb2 hb0
    go_wp2_with fail
    go_ret
    exact ⟨rfl, hb3⟩
  have d2 : decide ((l.length : Int) < 2) = false := by simp; omega
  go_enter Try.func4, Try.ntmps4
  go_wp2_with fail
  rw [← hw0]
  clear hw0
  refine (RR.out _ hb0).mono ?_
  rintro e w1 ⟨rr, n1, rfl, rfl, hbr⟩
  have hb1 := below_drewN hb0 n1
  have K1 : Blk (w0.drewN n1) w.heap.size 25 #[.int .u64 ka, .int .u64 kb] := K0
  have T1 : Blk (w0.drewN n1) (w.heap.size + 1) 29 #[.int .i64 t1, .bool t2, .int .u64 t3, .int .u64 t4, .bool t5, .int .u64 t6, .int .u64 t7, .int .i64 t8, .int .i64 t9] := T0
  replace hbr := Lib.hid hbr
  clear hb0 K0 T0 RR
  generalize w0.drewN n1 = w1 at *
  cases rr
  · go_wp2_with fail
    refine (awake51 _).mono ?_
    rintro e w2 ⟨rfl, hb2⟩
    have hb3 := below_chain hb2 hb1
    go_wp2_with fail
    go_ret
    exact ⟨rfl, hb3⟩
  have hbk := hbr.out (by first | rfl | trivial)
  clear hbr
  have hids := rkRight_ids hbk
  have hnod := rkRight_nodup hbk
  obtain ⟨m, hm, hm1, hm2⟩ : ∃ m : Nat, (1 : Int) + (ea : Int) % 8 = (m : Int) ∧ 1 ≤ m ∧ m ≤ 8 := ⟨1 + ea % 8, by omega, by omega, by omega⟩
  obtain ⟨i, hi, hil⟩ : ∃ i : Nat, (aa : Int) % (l.length : Int) = (i : Int) ∧ i < l.length := ⟨aa % l.length, by omega, Nat.mod_lt _ (by omega)⟩
  have hz : ((l.length : Int) == 0) = false := by rw [beq_eq_false_iff_ne]; omega
  replace hbk := Lib.hid hbk
  replace hids := Lib.hid hids
  replace hnod := Lib.hid hnod
  replace hm := Lib.hid hm
  replace hi := Lib.hid hi
  dsimp only
  go_upto_region 5 with fail
  rw [hm.out, hi.out]
  have hic : (i : Int) ≤ (c : Int) := by omega
  have hin : (i : Int) ≤ (l.length : Int) := by omega
  have hil1 : ((i : Int) + 1) ≤ (l.length : Int) := by omega
  have hlc : (l.length : Int) ≤ (c : Int) := by omega
  obtain ⟨i0, hi0, hz0, hz1, hz2⟩ := info_parts info_bkR
  go_upto_region 6 with fail
  obtain ⟨ad, rfl, hbl, -⟩ := hr.out.2 (by omega)
  have hrA := (hr.out.below hb1).pre (k := i) (by omega)
  rw [flat_take l i (by omega)] at hrA
  have hrB := (hr.out.below hb1).cut (k := i + 1) (cap := c) (by omega) hc
  rw [flat_drop l (i + 1) (by omega)] at hrB
  replace hrA := Lib.hid hrA
  replace hrB := Lib.hid hrB
  have hs1 : (i : Int) + 1 ≤ (c : Int) := by omega
  have hz1' := hb1.size
  go_upto_region 7 with (first
    | (at_builtin; (refine wpList_append_sl _ rfl (.tmp 53) (.tmp 56) 22 rfl w.heap.size 46 i0 _ 6 48 Try.underlying22 hi0 hz0 hz1 hz2 rfl (by decide) (.slice none 0 0) 0 [] rfl (World.ownsRow_nil _ _ _ _) w.heap.size (some ad) i c ((l.take i).flatMap Bk.cells) rfl hrA.out (bk_oneR _) (by unfold maxLen; omega) (by omega) hz1' ?_; intro A1 p1 w2 ho1 hg1 hat1; rw [Nat.zero_add] at ho1 ⊢; rw [List.nil_append] at ho1)))
  have hb2 := hb1.grown hg1 hz1' (by simp [Value.ownBlock])
  have K2 := K1.grown hg1 (by simp [Value.ownBlock])
  have T2 := T1.grown hg1 (by simp [Value.ownBlock])
  have hO1 : OwnA Bk.cells 6 46 w2 w.heap.size A1 p1 (l.take i) := by
    unfold OwnA
    rw [List.length_take, Nat.min_eq_left (by omega)]
    exact ho1
  have hrC := (hrB.out.keep (w' := w2) fun p hp => World.cell?_of_block (hg1.block p.block (by omega) (by simp [Value.ownBlock])))
  have hll := lessL_len hil
  have hE : ∀ (A2 : Option Addr) (p2 : Nat) (w3 : World), w3.ownsRow w.heap.size 46 6 (.slice A2 (i + (l.length - (i + 1))) p2) (i + (l.length - (i + 1))) ((l.take i).flatMap Bk.cells ++ (l.drop (i + 1)).flatMap Bk.cells) → w2.grownBy w3 (Value.slice A1 i p1).ownBlock →
      OwnA Bk.cells 6 46 w3 w.heap.size A2 p2 (lessL l i) ∧ Below w.heap.size w w3 ∧ Blk w3 w.heap.size 25 #[.int .u64 ka, .int .u64 kb] ∧ Blk w3 (w.heap.size + 1) 29 #[.int .i64 t1, .bool t2, .int .u64 t3, .int .u64 t4, .bool t5, .int .u64 t6, .int .u64 t7, .int .i64 t8, .int .i64 t9] := by
    intro A2 p2 w3 ho2 hg2
    have hob : ∀ k, (Value.slice A1 i p1).ownBlock = some k → InB A1 k := fun k hk => by
      have := (hO1.own_block k).1
      rw [List.length_take, Nat.min_eq_left (by omega)] at this
      exact this hk
    have hne : ∀ {b : Nat} {T : TypeId} {cs : Array Value}, Blk w2 b T cs → T ≠ 46 → (Value.slice A1 i p1).ownBlock ≠ some b := fun hB hT e => by
      obtain ⟨cs', hc⟩ := own_bkR hO1 (hob _ e)
      exact Blk.ne_ hB hc hT rfl
    refine ⟨?_, hb2.grown hg2 hb2.size (fun k hk => (hO1.block (hob k hk)).1), K2.grown hg2 (hne K2 (by decide)), T2.grown hg2 (hne T2 (by decide))⟩
    unfold OwnA
    rw [hll]
    unfold lessL
    rw [List.flatMap_append]
    exact ho2
  replace hE := Lib.hid hE
  replace hO1 := Lib.hid hO1
  clear hg1 hat1 K1 T1 K2 T2 hrA hrB hb1
  by_cases hcc : c = i + 1
  case' pos =>
    rw [if_pos hcc] at hrC
    go_upto_region 8 with (first | (at_builtin; (refine wpList_append_sl _ rfl (.tmp 58) (.tmp 62) 22 rfl w.heap.size 46 i0 _ 6 48 Try.underlying22 hi0 hz0 hz1 hz2 rfl (by decide) (.slice A1 i p1) i ((l.take i).flatMap Bk.cells) rfl ho1 w.heap.size (some ad) (l.length - (i + 1)) _ ((l.drop (i + 1)).flatMap Bk.cells) rfl hrC (bk_oneR _) (by unfold maxLen; omega) (by omega) hb2.size ?_; intro A2 p2 w3 ho2 hg2 hat2)))
  case' neg =>
    rw [if_neg hcc] at hrC
    go_upto_region 8 with (first | (at_builtin; (refine wpList_append_sl _ rfl (.tmp 58) (.tmp 62) 22 rfl w.heap.size 46 i0 _ 6 48 Try.underlying22 hi0 hz0 hz1 hz2 rfl (by decide) (.slice A1 i p1) i ((l.take i).flatMap Bk.cells) rfl ho1 w.heap.size (some (ad.add ((i + 1) * 6))) (l.length - (i + 1)) _ ((l.drop (i + 1)).flatMap Bk.cells) rfl hrC (bk_oneR _) (by unfold maxLen; omega) (by omega) hb2.size ?_; intro A2 p2 w3 ho2 hg2 hat2)))
  all_goals
    obtain ⟨hO2, hb3, K3, T3⟩ := hE.out A2 p2 w3 ho2 hg2
    rw [← hll]
    have hx1 : 0 < (lessL l i).length := by omega
    have hx2 : (lessL l i).length ≤ 64 := by omega
    replace hll := Lib.hid hll
    have hm3 : 1 ≤ m ∧ m ≤ 64 := ⟨hm1, by omega⟩
    have hl0 : 0 < l.length := by omega
    have hl64 : l.length ≤ 64 := by omega
    have N1 := fun c => rnew_some 0 l (some ad) c ka kb m w3 ((hr.out.below hb3).more hb3.size) hm3 hl0 hl64 hids.out
    replace N1 := Lib.hid N1
    have N2 := fun W hrd => rnew_some 0 (lessL l i) A2 p2 ka kb m W hrd hm3 hx1 hx2 (fun b hb => hids.out b (lessL_mem hb))
    replace N2 := Lib.hid N2
    clear hx1 hx2
    replace hO2 := Lib.hid hO2
    have k0 := K3.cell 0
    have k1 := K3.cell 1
    simp only [List.getElem?_toArray, List.getElem?_cons_zero, List.getElem?_cons_succ] at k0 k1
    clear ho2 hg2 hat2 hrC ho1 hE hO1 hb2
    go_wp2_with fail
    refine (N1.out _).mono ?_
    rintro e w4 ⟨g, S, rfl, hpS, okS, hRS, hb4⟩
    have hb5 := below_chain hb4 hb3
    have K4 := K3.call hb4
    have T4 := T3.call hb4
    have hO4 := hO2.out.call hb4
    replace hpS := Lib.hid hpS
    replace okS := Lib.hid okS
    clear K3 T3 hO2 hb3 hb4 k0 k1
    have k0 := K4.cell 0
    have k1 := K4.cell 1
    simp only [List.getElem?_toArray, List.getElem?_cons_zero, List.getElem?_cons_succ] at k0 k1
    replace hO4 := Lib.hid hO4
    go_wp2_with fail
    refine (N2.out _ hO4.out.reads).mono ?_
    rintro e w5 ⟨gT, T, rfl, hpT, okT, hRT, hb6⟩
    have hb7 := below_chain hb6 hb5
    have T5 := T4.call hb6
    have RS5 := hRS.call hb6
    have hS0 : S ≠ [] := fun e => by have := okS.out.ne; rw [e] at this; simp at this
    have hT0 : T ≠ [] := fun e => by have := okT.ne; rw [e] at this; simp at this
    have GL := fun z => goes_law hil hnod.out hpS.out hpT hS0 hT0 z
    have hSl : S.length = l.length * m := by rw [hpS.out.length_eq, ptsOf_len]
    have hZ := shAll_zero S (l.map Bk.id) hnod.out (fun p hp => ptsOf_mem (hpS.out.mem_iff.1 hp))
    replace okT := Lib.hid okT
    replace GL := Lib.hid GL
    replace hZ := Lib.hid hZ
    replace hSl := Lib.hid hSl
    clear K4 T4 hO4 hb5 hb6 hRS k0 k1 hpT hS0 hT0 hll N1 N2
    go_wp2_with fail
    refine (rat_any n RS5 okS.out).mono ?_
    rintro e w6 ⟨rfl, hb8⟩
    have hb9 := below_chain hb8 hb7
    have T6 := T5.call hb8
    have RS6 := RS5.call hb8
    have RT6 := hRT.call hb8
    clear T5 RS5 hRT hb7 hb8
    go_wp2_with fail
    refine (rat_any n RT6 okT.out).mono ?_
    rintro e w7 ⟨rfl, hb10⟩
    have hb11 := below_chain hb10 hb9
    have T7 := T6.call hb10
    have RS7 := RS6.call hb10
    have RT7 := RT6.call hb10
    clear T6 RS6 RT6 hb9 hb10
    have t0 := T7.cell 0
    have t1' := T7.cell 1
    have t2' := T7.cell 2
    have t3' := T7.cell 3
    have t4' := T7.cell 4
    have t5' := T7.cell 5
    have t6' := T7.cell 6
    have t7' := T7.cell 7
    have t8' := T7.cell 8
    simp only [List.getElem?_toArray, List.getElem?_cons_zero, List.getElem?_cons_succ] at t0 t1' t2' t3' t4' t5' t6' t7' t8'
    go_wp2_with fail
    refine (PK.out _ g S RS7 okS.out).mono ?_
    rintro e w8 ⟨rfl, hb12⟩
    have hb13 := below_chain hb12 hb11
    have T8 := T7.call hb12
    have RS8 := RS7.call hb12
    have RT8 := RT7.call hb12
    clear T7 RS7 RT7 hb11 hb12
    clear t0 t1' t2' t3' t4' t5' t6' t7' t8'
    have t0 := T8.cell 0
    have t1' := T8.cell 1
    have t2' := T8.cell 2
    have t3' := T8.cell 3
    have t4' := T8.cell 4
    have t5' := T8.cell 5
    have t6' := T8.cell 6
    have t7' := T8.cell 7
    have t8' := T8.cell 8
    simp only [List.getElem?_toArray, List.getElem?_cons_zero, List.getElem?_cons_succ] at t0 t1' t2' t3' t4' t5' t6' t7' t8'
    go_wp2_with fail
    refine (PK.out _ gT T RT8 okT.out).mono ?_
    rintro e w9 ⟨rfl, hb14⟩
    have hb15 := below_chain hb14 hb13
    have RS9 := RS8.call hb14
    clear T8 RS8 RT8 hb13 hb14
    clear t0 t1' t2' t3' t4' t5' t6' t7' t8'
    have gl1 := GL.out n
    have gl2 := GL.out hN
    generalize (ownP S n).1 = ia at *
    generalize (ownP T n).1 = ib at *
    generalize (ownP S hN).1 = ic at *
    generalize (ownP T hN).1 = id at *
    replace gl1 := Lib.hid gl1
    replace gl2 := Lib.hid gl2
    clear GL PK
    go_wp2_with fail
    go_loopw [28, 29] (fun sm ix wr => ∃ k : Nat, k ≤ l.length ∧ ix = .int .i64 (k : Nat) ∧ sm = .int .u64 (u64w (((l.take k).map fun b => shN S b.id S.length).sum)) ∧ RingAt wr g ka kb S ∧ Below w.heap.size w wr) (fun _ ix _ => l.length - (intOf ix).toNat)
    case atStart => exact ⟨0, by omega, rfl, rfl, RS9, hb15⟩
    case round =>
      obtain ⟨k, hk, rfl, rfl, hR, hb⟩ := hrel
      clear RS9 hb15
      by_cases hlt : k < l.length
      · have hlti : (k : Int) < (l.length : Int) := by omega
        obtain ⟨ad', b, e', hbl', hbk', c0, -, -, -, -, -⟩ := bk_at (hr.out.below hb) hlt
        obtain rfl : ad = ad' := by simpa using e'
        have hst : ((l.take (k + 1)).map fun b => shN S b.id S.length).sum = ((l.take k).map fun b => shN S b.id S.length).sum + shN S b.id S.length := by
          obtain ⟨hk', rfl⟩ := List.getElem?_eq_some_iff.1 hbk'
          rw [List.take_succ_eq_append_getElem hk', List.map_append, List.sum_append]
          simp
        have hu := u64w_step (((l.take k).map fun b => shN S b.id S.length).sum) (shN S b.id S.length)
        rw [← hst] at hu
        have SH := rshare_any b.id hR okS.out
        generalize ((l.take k).map fun b => shN S b.id S.length).sum = sk at *
        generalize u64w (shN S b.id S.length) = ub at *
        obtain ⟨bi, bw, bs, bv, bh, bo⟩ := b
        dsimp only at *
        replace SH := Lib.hid SH
        replace hu := Lib.hid hu
        replace hst := Lib.hid hst
        replace hbk' := Lib.hid hbk'
        replace hR := Lib.hid hR
        clear e' hbl'
        go_wp2_with fail
        refine SH.out.mono ?_
        rintro e w10 ⟨rfl, hb16⟩
        have hb17 := below_chain hb16 hb
        have R10 := hR.out.call hb16
        clear SH hR hb hb16 c0
        go_wp2_with fail
        go_roundw
        case rel => exact ⟨k + 1, by omega, by go_num, by rw [wrap_u64w, hu.out], R10, hb17⟩
        case measure => simp [intOf]; omega
      · obtain rfl : k = l.length := by omega
        have hlti : ¬ (l.length : Int) < (l.length : Int) := by omega
        rw [List.take_length]
        have hz0 : (l.map fun b => shN S b.id S.length).sum = 0 := by
          have := hZ.out
          unfold shAll at this
          rw [List.map_map] at this
          exact this
        rw [hz0, show u64w 0 = 0 from rfl]
        have PO := rpoints_any hR okS.out.ne
        have hmul : ((S.length : Int) == (m : Int) * (l.length : Int)) = true := by
          rw [hSl.out]
          simp [Int.mul_comm]
        obtain ⟨ad', b, e', hbl', hbk', c0, -, -, -, -, -⟩ := bk_at (hr.out.below hb) hil
        obtain rfl : ad = ad' := by simpa using e'
        have ebi : l[i].id = b.id := by
          obtain ⟨hk', rfl⟩ := List.getElem?_eq_some_iff.1 hbk'
          rfl
        have gl3 := gl1.out
        have gl4 := gl2.out
        rw [ebi] at gl3 gl4
        generalize b.id = bi at *
        generalize (S.length : Int) = sl at *
        have hmw : IntKind.i64.wrap ((m : Int) * (l.length : Int)) = (m : Int) * (l.length : Int) := i64_id _ (by
          have h1 : m * l.length ≤ 8 * 12 := Nat.mul_le_mul hm2 (by omega)
          have h2 : ((m * l.length : Nat) : Int) = (m : Int) * (l.length : Int) := by simp
          rw [← h2]
          omega)
        obtain ⟨ba, e1⟩ : ∃ b, (ia == ib) = b := ⟨_, rfl⟩
        obtain ⟨bc, e3⟩ : ∃ b, (ic == id) = b := ⟨_, rfl⟩
        rw [e1] at gl3
        rw [e3] at gl4
        have e2 : (ia != bi) = ba := gl3.symm
        have e4 : (ic != bi) = bc := gl4.symm
        replace PO := Lib.hid PO
        clear hR hZ gl1 gl2 gl3 gl4 hbk' ebi e'
        cases ba <;> cases bc
        all_goals
          go_wp2_with fail
          refine PO.out.mono ?_
          rintro e w10 ⟨rfl, rfl⟩
          go_wp2_with fail
          refine (awake51 _).mono ?_
          rintro e w11 ⟨rfl, hb16⟩
          have hb17 := below_chain hb16 hb
          go_wp2_with fail
          go_ret
          exact ⟨rfl, hb17⟩
end Go.Proofs.Ytnmmjchhinfbpaa
