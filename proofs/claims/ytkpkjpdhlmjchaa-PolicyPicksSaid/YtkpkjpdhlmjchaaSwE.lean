/- swrr: Pick, once set has done its part. swrr: Pick. -/
import Derived.Test.YtkpkjpdhlmjchaaSwC
import Derived.Test.YtkpkjpdhlmjchaaSwB
import Derived.Deep.RegionWith
namespace Go.Proofs.Ytkpkjpdhlmjchaa
open Go Go.RowKit Go.Deep

set_option maxRecDepth 100000 in
set_option maxHeartbeats 16000000 in
theorem swrr_pick_core (base g : Nat) (s0 : Bool) (v0 wt0 : Int) (c0 : Value) (ver wt : Int) (ts : List Trn) (l : List Bk) (A : Option Addr) (c : Nat) (F : Nat → Prop) (w : World) (hT : Blk w g 184 #[.bool true, .bool s0, .int .i64 v0, .int .i64 wt0, c0])
    (SET : ∀ W, Below w.heap.size w W → Calls Try.prog 115 #[.pointer (some ⟨g, 0, none⟩), .agg #[.int .i64 ver, .slice A l.length c]] W fun e w' => e = .returned (.tuple #[]) ∧ (∃ P p, Blk w' g 184 #[.bool true, .bool true, .int .i64 ver, .int .i64 wt, .slice P ts.length p] ∧ OwnT w' base P p ts ∧ (∀ b, InB P b → b < w.heap.size → F b)) ∧ Chg F w w')
    (hl : ts.length ≤ 1000) (hn : ∀ x ∈ ts, -1000000000000 ≤ x.2 ∧ x.2 ≤ 1000000000000 ∧ 0 ≤ x.1.w ∧ x.1.w ≤ 1000) (hw : 0 ≤ wt ∧ wt ≤ 1000000) :
    Calls Try.prog 89 #[.pointer (some ⟨g, 0, none⟩), .agg #[.int .i64 ver, .slice A l.length c]] w fun e w' => e = .returned (.tuple #[.int .i64 (pickId ts), .bool (decide (0 < ts.length))]) ∧ TurnAt w' base g true ver wt (pickTs wt ts) ∧ Chg F w w' := by
  have hb0 : Below w.heap.size w (w.alloc (.cells #[.int .i64 ver, .slice A l.length c] 36)) := below_alloc (Below.refl _ _) _
  have B0 := Blk.new w 36 #[.int .i64 ver, .slice A l.length c]
  have T0 := hT.alloc (.cells #[.int .i64 ver, .slice A l.length c] 36)
  have s0' := B0.cell 0
  have s1' := B0.cell 1
  have t0 := T0.cell 0
  simp only [List.getElem?_toArray, List.getElem?_cons_zero, List.getElem?_cons_succ] at s0' s1' t0
  have SE := SET _ hb0
  replace SE := Lib.hid SE
  replace hn := Lib.hid hn
  clear SET hT T0 B0
  by_cases h0 : ts.length = 0
  · have e0 : ((ts.length : Int) == 0) = true := by rw [h0]; rfl
    have e1 : pickId ts = 0 := by unfold pickId; rw [if_pos h0]
    have e2 : decide (0 < ts.length) = false := by rw [h0]; rfl
    have e3 : pickTs wt ts = ts := by unfold pickTs; rw [if_pos h0]
    rw [e1, e2, e3]
    replace h0 := Lib.hid h0
    clear e1 e2 e3
    go_enter Try.func89, Try.ntmps89
    go_wp2_with fail
    refine SE.out.mono ?_
    rintro e w1 ⟨rfl, ⟨P, p, hX, hO, -⟩, hc⟩
    have t4 := hX.cell 4
    simp only [List.getElem?_toArray, List.getElem?_cons_zero, List.getElem?_cons_succ] at t4
    clear SE s0' s1' t0
    go_wp2_with fail
    go_ret2
    exact ⟨rfl, ⟨P, p, hX, hO⟩, hc⟩
  have e0 : ((ts.length : Int) == 0) = false := by rw [beq_eq_false_iff_ne]; omega
  have hpos : 0 < ts.length := by omega
  have hposi : (0 : Int) < (ts.length : Int) := by omega
  obtain ⟨us, hus⟩ : ∃ us, addT ts = us := ⟨_, rfl⟩
  have e1 : pickId ts = (us.getD (bestN us ts.length) trn0).1.id := by unfold pickId bestI; rw [if_neg h0, hus]
  have e2 : decide (0 < ts.length) = true := by simpa using hpos
  have e3 : pickTs wt ts = us.set (bestN us ts.length) ((us.getD (bestN us ts.length) trn0).1, (us.getD (bestN us ts.length) trn0).2 - wt) := by unfold pickTs bestI; rw [if_neg h0, hus]
  obtain ⟨PI, hPI⟩ : ∃ PI, pickId ts = PI := ⟨_, rfl⟩
  obtain ⟨PT, hPT⟩ : ∃ PT, pickTs wt ts = PT := ⟨_, rfl⟩
  rw [hPI, e2, hPT]
  rw [hPI] at e1
  rw [hPT] at e3
  replace e1 := Lib.hid e1
  replace e3 := Lib.hid e3
  replace hus := Lib.hid hus
  clear e2 hPI hPT
  go_enter Try.func89, Try.ntmps89
  go_wp2_with fail
  refine SE.out.mono ?_
  rintro e w1 ⟨rfl, ⟨P, p, hX, hO, hF⟩, hc⟩
  obtain ⟨gr, rfl, hRow, -⟩ : ∃ gr, P = some ⟨gr, 0, none⟩ ∧ RowT w1 base gr ts.length p ts ∧ True := by
    rcases hO.2 with ⟨h1, h2⟩ | ⟨g', cap, cur, h1, -⟩
    · omega
    · simp only [Value.slice.injEq] at h1
      obtain ⟨rfl, -, rfl⟩ := h1
      exact ⟨g', rfl, ⟨rfl, hO⟩, trivial⟩
  have hgne : ¬ g = gr := by
    rintro rfl
    obtain ⟨g', cap, cur, h1, -, h3, -⟩ := hO.2.resolve_left (by rintro ⟨-, h⟩; omega)
    simp only [Value.slice.injEq, Option.some.injEq, Addr.mk.injEq] at h1
    obtain ⟨⟨rfl, -⟩, -⟩ := h1
    unfold Blk at hX
    rw [hX] at h3
    have := h3
    simp at this
  have hFr : gr < w.heap.size → F gr := hF gr ⟨_, rfl, rfl⟩
  have t4 := hX.cell 4
  simp only [List.getElem?_toArray, List.getElem?_cons_zero, List.getElem?_cons_succ] at t4
  have t4a := t4
  clear SE s0' s1' t0 hO hF
  go_wp2_with fail
  go_loopw [33, 6] (fun i _ wr => ∃ k : Nat, k ≤ ts.length ∧ i = .int .i64 (k : Nat) ∧ Blk wr g 184 #[.bool true, .bool true, .int .i64 ver, .int .i64 wt, .slice (some ⟨gr, 0, none⟩) ts.length p] ∧ RowT wr base gr ts.length p (addN ts k) ∧ Chg F w wr) (fun i _ _ => ts.length - (intOf i).toNat)
  case atStart => exact ⟨0, by omega, rfl, hX, by rw [addN_zero]; exact hRow, hc⟩
  case round =>
    obtain ⟨k, hk, rfl, hXr, hRr, hcr⟩ := hrel
    clear hX hRow hc t4 t4a
    by_cases hlt : k < ts.length
    · have hlti : (k : Int) < (ts.length : Int) := by omega
      obtain ⟨x, hx⟩ : ∃ x, ts[k]? = some x := ⟨_, List.getElem?_eq_getElem hlt⟩
      have hxa := addN_at ts k x hx
      have hstep := addN_succ ts k x hx
      obtain ⟨b1, b2, b3, b4⟩ := hn.out x (List.mem_of_getElem? hx)
      obtain ⟨d0, d1, d6, hfz⟩ := hRr.cells hxa
      have hRn := hRr.num hxa (x.2 + x.1.w)
      have hXn := hXr.far (p := ⟨gr, k * 7 + 6, none⟩) hgne (.int .i64 (x.2 + x.1.w))
      have hcn := hcr.setCell (p := ⟨gr, k * 7 + 6, none⟩) hFr (.int .i64 (x.2 + x.1.w))
      have f6 := hfz (k * 7 + 6)
      have t4 := hXr.cell 4
      simp only [List.getElem?_toArray, List.getElem?_cons_zero, List.getElem?_cons_succ] at t4
      obtain ⟨xb, xn⟩ := x
      dsimp only at *
      have g1 : IntKind.i64.wrap (xn + xb.w) = xn + xb.w := i64_id _ (by omega)
      replace hstep := Lib.hid hstep
      replace hx := Lib.hid hx
      replace hxa := Lib.hid hxa
      replace hRn := Lib.hid hRn
      replace hXn := Lib.hid hXn
      replace hcn := Lib.hid hcn
      clear hfz hXr hRr hcr
      go_wp2_with fail
      go_region
      have hR2 : RowT (wr.setCell ⟨gr, k * 7 + 6, none⟩ (.int .i64 (xn + xb.w))).drew base gr ts.length p _ := hRn.out
      have hX2 : Blk (wr.setCell ⟨gr, k * 7 + 6, none⟩ (.int .i64 (xn + xb.w))).drew g 184 _ := hXn.out
      have hc2 : Chg F w (wr.setCell ⟨gr, k * 7 + 6, none⟩ (.int .i64 (xn + xb.w))).drew := hcn.out.drew
      clear hRn hXn hcn d0 d1 d6 f6 t4 g1
      generalize (wr.setCell ⟨gr, k * 7 + 6, none⟩ (.int .i64 (xn + xb.w))).drew = w9 at *
      go_wp2_with fail
      go_roundw
      case rel => exact ⟨k + 1, by omega, by go_num, hX2, by rw [hstep.out]; exact hR2, hc2⟩
      case measure => simp [intOf]; omega
    · obtain rfl : k = ts.length := by omega
      have hlti : ¬ (ts.length : Int) < (ts.length : Int) := by omega
      rw [addN_all] at hRr
      have hbd : ∀ x ∈ addT ts, -1000000001000 ≤ x.2 ∧ x.2 ≤ 1000000001000 := by
        intro x hx
        obtain ⟨y, hy, rfl⟩ := List.mem_map.1 hx
        have := hn.out y hy
        dsimp only
        omega
      have hTl := addT_len ts
      rw [hus.out] at hRr hbd hTl
      have hblt := bestN_lt us (by omega)
      have hbs : ∀ k, bestN us (k + 1) = if (us.getD (bestN us k) trn0).2 < (us.getD k trn0).2 then k else bestN us k := fun _ => rfl
      have t4 := hXr.cell 4
      simp only [List.getElem?_toArray, List.getElem?_cons_zero, List.getElem?_cons_succ] at t4
      replace hbd := Lib.hid hbd
      replace hTl := Lib.hid hTl
      replace hblt := Lib.hid hblt
      replace hbs := Lib.hid hbs
      go_wp2_with fail
      obtain ⟨wo, rfl⟩ : ∃ wo : World, wo = wr := ⟨_, rfl⟩
      go_loopw [67, 7, 8, 9] (fun i b _ _ wx => ∃ k : Nat, k ≤ ts.length ∧ i = .int .i64 (k : Nat) ∧ b = .pointer (some ⟨gr, bestN us k * 7, none⟩) ∧ Blk wx g 184 #[.bool true, .bool true, .int .i64 ver, .int .i64 wt, .slice (some ⟨gr, 0, none⟩) ts.length p] ∧ RowT wx base gr ts.length p us ∧ Chg F w wx) (fun i _ _ _ _ => ts.length - (intOf i).toNat)
      case atStart => exact ⟨0, by omega, rfl, by first | rfl | simp [bestN, Addr.add], hXr, hRr, hcr⟩
      case round =>
        obtain ⟨q, hq, rfl, rfl, hXs, hRs, hcs⟩ := hrel
        clear hXr hRr hcr t4
        have t4 := hXs.cell 4
        simp only [List.getElem?_toArray, List.getElem?_cons_zero, List.getElem?_cons_succ] at t4
        have hbq := hblt.out q (by rw [hTl.out]; exact hq)
        by_cases hlt : q < ts.length
        · have hlti : (q : Int) < (ts.length : Int) := by omega
          obtain ⟨x, hx⟩ : ∃ x, us[q]? = some x := ⟨_, List.getElem?_eq_getElem (by rw [hTl.out]; exact hlt)⟩
          obtain ⟨y, hy⟩ : ∃ y, us[bestN us q]? = some y := ⟨_, List.getElem?_eq_getElem hbq⟩
          have hst := hbs.out q
          have ex : us.getD q trn0 = x := by rw [List.getD_eq_getElem?_getD, hx]; rfl
          have ey : us.getD (bestN us q) trn0 = y := by rw [List.getD_eq_getElem?_getD, hy]; rfl
          rw [ex, ey] at hst
          obtain ⟨-, -, d6, -⟩ := hRs.cells hx
          obtain ⟨-, -, f6, -⟩ := hRs.cells hy
          obtain ⟨bi, hbi⟩ : ∃ bi, bestN us q = bi := ⟨_, rfl⟩
          rw [hbi] at hst f6 hbq ⊢
          obtain ⟨xb, xn⟩ := x
          obtain ⟨yb, yn⟩ := y
          dsimp only at *
          replace hbi := Lib.hid hbi
          replace hx := Lib.hid hx
          replace hy := Lib.hid hy
          replace ex := Lib.hid ex
          replace ey := Lib.hid ey
          by_cases hg : yn < xn
          · have hgt : decide (yn < xn) = true := by simpa using hg
            rw [if_pos hg] at hst
            replace hst := Lib.hid hst
            clear hg
            go_wp2_with fail
            go_quiet (fail)
            have hX2 : Blk (wr.drewN nq) g 184 _ := hXs
            have hR2 : RowT (wr.drewN nq) base gr ts.length p us := hRs
            have hc2 : Chg F w (wr.drewN nq) := hcs.drewN nq
            clear hXs hRs hcs t4 d6 f6
            generalize wr.drewN nq = w9 at *
            go_wp2_with fail
            go_roundw
            case rel => exact ⟨q + 1, by omega, by go_num, by rw [hst.out], hX2, hR2, hc2⟩
            case measure => simp [intOf]; omega
          · have hgt : decide (yn < xn) = false := by simpa using hg
            rw [if_neg hg] at hst
            replace hst := Lib.hid hst
            clear hg
            go_wp2_with fail
            go_quiet (fail)
            have hX2 : Blk (wr.drewN nq) g 184 _ := hXs
            have hR2 : RowT (wr.drewN nq) base gr ts.length p us := hRs
            have hc2 : Chg F w (wr.drewN nq) := hcs.drewN nq
            clear hXs hRs hcs t4 d6 f6
            generalize wr.drewN nq = w9 at *
            go_wp2_with fail
            go_roundw
            case rel => exact ⟨q + 1, by omega, by go_num, by rw [hst.out], hX2, hR2, hc2⟩
            case measure => simp [intOf]; omega
        · obtain rfl : q = ts.length := by omega
          have hlti : ¬ (ts.length : Int) < (ts.length : Int) := by omega
          obtain ⟨y, hy⟩ : ∃ y, us[bestN us ts.length]? = some y := ⟨_, List.getElem?_eq_getElem hbq⟩
          have ey : us.getD (bestN us ts.length) trn0 = y := by rw [List.getD_eq_getElem?_getD, hy]; rfl
          have hby := hbd.out y (List.mem_of_getElem? hy)
          obtain ⟨f0, -, f6, hfz⟩ := hRs.cells hy
          have q6 := hfz (bestN us ts.length * 7 + 6)
          have hRn := hRs.num hy (y.2 - wt)
          have hXn := hXs.far (p := ⟨gr, bestN us ts.length * 7 + 6, none⟩) hgne (.int .i64 (y.2 - wt))
          have hcn := hcs.setCell (p := ⟨gr, bestN us ts.length * 7 + 6, none⟩) hFr (.int .i64 (y.2 - wt))
          have t3 := hXs.cell 3
          simp only [List.getElem?_toArray, List.getElem?_cons_zero, List.getElem?_cons_succ] at t3
          obtain ⟨bi, hbi⟩ : ∃ bi, bestN us ts.length = bi := ⟨_, rfl⟩
          rw [hbi] at f0 f6 q6 hRn hXn hcn ⊢
          obtain ⟨yb, yn⟩ := y
          dsimp only at *
          obtain ⟨w1', w2'⟩ := hw
          obtain ⟨y1, y2⟩ := hby
          have g1 : IntKind.i64.wrap (yn - wt) = yn - wt := i64_id _ (by omega)
          replace hRn := Lib.hid hRn
          replace hXn := Lib.hid hXn
          replace hcn := Lib.hid hcn
          replace hy := Lib.hid hy
          replace ey := Lib.hid ey
          replace hbi := Lib.hid hbi
          clear hXs hRs hcs hfz
          go_wp2_with fail
          go_region
          have hR2 : RowT (wr.setCell ⟨gr, bi * 7 + 6, none⟩ (.int .i64 (yn - wt))).drew base gr ts.length p _ := hRn.out
          have hX2 : Blk (wr.setCell ⟨gr, bi * 7 + 6, none⟩ (.int .i64 (yn - wt))).drew g 184 _ := hXn.out
          have hc2 : Chg F w (wr.setCell ⟨gr, bi * 7 + 6, none⟩ (.int .i64 (yn - wt))).drew := hcn.out.drew
          have f0' : (wr.setCell ⟨gr, bi * 7 + 6, none⟩ (.int .i64 (yn - wt))).drew.cell? ⟨gr, bi * 7, none⟩ = some (.int .i64 yb.id) := by
            have hl2 : bi < us.length := by rw [← hbi.out]; exact hbq
            have := (hR2.cells (k := bi) (x := (yb, yn - wt)) (by rw [List.getElem?_set_self hl2])).1
            exact this
          clear hRn hXn hcn f0 f6 q6 t3 t4 g1
          generalize (wr.setCell ⟨gr, bi * 7 + 6, none⟩ (.int .i64 (yn - wt))).drew = w9 at *
          go_wp2_with fail
          go_ret2
          refine ⟨?_, ⟨some ⟨gr, 0, none⟩, p, ?_, ?_⟩, hc2⟩
          · rw [e1.out, ey.out]; rfl
          · have hl3 : PT.length = ts.length := by rw [e3.out, List.length_set, hTl.out]
            rw [hl3]
            exact hX2
          · have hl3 : PT.length = ts.length := by rw [e3.out, List.length_set, hTl.out]
            have e4 : PT = us.set bi (yb, yn - wt) := by rw [e3.out, ey.out, hbi.out]
            unfold OwnT OwnA
            rw [hl3, e4]
            exact hR2.2
end Go.Proofs.Ytkpkjpdhlmjchaa

namespace Go.Proofs.Ytkpkjpdhlmjchaa
open Go Go.RowKit Go.Deep

def swT (s : Bool) (v0 ver wt0 : Int) (ts0 : List Trn) (l : List Bk) : Int × List Trn := if s = true ∧ v0 = ver then (wt0, ts0) else (sumW l, zeroT l)
theorem own_mono {w : World} {base base' m n : Nat} {e : TypeId} {v : Value} {xs : List Value} (h : w.ownsRow base e m v n xs) (hb : base' ≤ base) : w.ownsRow base' e m v n xs := by
  refine ⟨h.1, ?_⟩
  rcases h.2 with h0 | ⟨g, cap, cur, h1, h2, h3⟩
  · exact .inl h0
  · exact .inr ⟨g, cap, cur, h1, by omega, h3⟩
theorem TurnAt.mono {w : World} {base base' g : Nat} {s : Bool} {ver wt : Int} {ts : List Trn} (h : TurnAt w base g s ver wt ts) (hb : base' ≤ base) : TurnAt w base' g s ver wt ts := by
  obtain ⟨P, p, h1, h2⟩ := h
  exact ⟨P, p, h1, own_mono h2 hb⟩
theorem own_tb {w : World} {base : Nat} {P : Option Addr} {p : Nat} {ts : List Trn} (h : OwnT w base P p ts) {b : Nat} (hb : InB P b) : TB w b := by
  obtain ⟨a, rfl, rfl⟩ := hb
  rcases h.2 with ⟨h1, _⟩ | ⟨g, cap, cur, h1, hg, hh, _⟩
  · simp at h1
  · simp only [Value.slice.injEq, Option.some.injEq] at h1
    obtain ⟨rfl, -⟩ := h1
    exact ⟨cur, .inr hh⟩
/-- What the numbers of a turner may be. -/
def TrnOk (wt : Int) (ts : List Trn) (B : Int) : Prop := ts.length ≤ 1000 ∧ (∀ x ∈ ts, -B ≤ x.2 ∧ x.2 ≤ B ∧ 0 ≤ x.1.w ∧ x.1.w ≤ 1000) ∧ 0 ≤ wt ∧ wt ≤ 1000000
theorem trnOk_new (l : List Bk) (hl : l.length ≤ 1000) (hw : ∀ b ∈ l, 0 ≤ b.w ∧ b.w ≤ 1000) (B : Int) (hB : 0 ≤ B) : TrnOk (sumW l) (zeroT l) B := by
  have h := sumW_bd l hw l.length (Nat.le_refl _)
  rw [List.take_length] at h
  refine ⟨by unfold zeroT; rw [List.length_map]; exact hl, fun x hx => ?_, h.1, by omega⟩
  obtain ⟨b, hb, rfl⟩ := List.mem_map.1 hx
  have := hw b hb
  exact ⟨by dsimp only; omega, hB, this.1, this.2⟩
theorem swT_ok {s : Bool} {v0 ver wt0 : Int} {ts0 : List Trn} {l : List Bk} {B : Int} (h : TrnOk wt0 ts0 B) (hl : l.length ≤ 1000) (hw : ∀ b ∈ l, 0 ≤ b.w ∧ b.w ≤ 1000) (hB : 0 ≤ B) : TrnOk (swT s v0 ver wt0 ts0 l).1 (swT s v0 ver wt0 ts0 l).2 B := by
  unfold swT
  split
  · exact h
  · exact trnOk_new l hl hw B hB
theorem swrr_pick (base g : Nat) (s : Bool) (v0 wt0 : Int) (ts0 : List Trn) (ver : Int) (l : List Bk) (A : Option Addr) (c : Nat) (B : Int) (w : World) (h : TurnAt w base g s v0 wt0 ts0) (hbase : base ≤ w.heap.size) (hok : TrnOk wt0 ts0 B) (hB : 0 ≤ B) (hB2 : B ≤ 1000000000000)
    (hr : Reads w w.heap.size 6 A l.length (l.flatMap Bk.cells)) (hag : ∀ a, A = some a → ¬ a.block = g) (hl : l.length ≤ 1000) (hw : ∀ b ∈ l, 0 ≤ b.w ∧ b.w ≤ 1000) :
    Calls Try.prog 89 #[.pointer (some ⟨g, 0, none⟩), .agg #[.int .i64 ver, .slice A l.length c]] w fun e w' => e = .returned (.tuple #[.int .i64 (pickId (swT s v0 ver wt0 ts0 l).2), .bool (decide (0 < (swT s v0 ver wt0 ts0 l).2.length))]) ∧
      TurnAt w' base g true ver (swT s v0 ver wt0 ts0 l).1 (pickTs (swT s v0 ver wt0 ts0 l).1 (swT s v0 ver wt0 ts0 l).2) ∧ Chg (TB w) w w' := by
  have hT := swT_ok (s := s) (v0 := v0) (ver := ver) hok hl hw hB
  obtain ⟨P0, p0, hX, hO⟩ := id h
  have hg : TB w g := ⟨_, .inl hX⟩
  refine swrr_pick_core base g s v0 wt0 _ ver _ _ l A c (TB w) w hX ?_ hT.1 (fun x hx => by have := hT.2.1 x hx; omega) hT.2.2
  intro W hb
  by_cases hc : s = true ∧ v0 = ver
  · have e : swT s v0 ver wt0 ts0 l = (wt0, ts0) := by unfold swT; rw [if_pos hc]
    rw [e]
    obtain ⟨rfl, rfl⟩ := hc
    refine (swrr_set_same base g v0 wt0 ts0 l A c W (h.call hb)).mono ?_
    rintro e w' ⟨rfl, hb2⟩
    refine ⟨rfl, ⟨P0, p0, (hX.call hb).call hb2, (hO.call hb).call hb2, fun b hi _ => own_tb hO hi⟩, Chg.of_below (below_chain hb2 hb)⟩
  · have e : swT s v0 ver wt0 ts0 l = (sumW l, zeroT l) := by unfold swT; rw [if_neg hc]
    rw [e]
    refine (swrr_set_new base g s v0 wt0 ts0 ver l A c W (h.call hb) hc ((hr.below hb).more hb.size) hag hl hw).mono ?_
    rintro e w' ⟨rfl, ⟨P, p, hX2, hO2⟩, hc2⟩
    have hsz := hb.size
    refine ⟨rfl, ⟨P, p, hX2, own_mono hO2 (by omega), fun b hi hlt => ?_⟩, ?_⟩
    · have := (hO2.block hi).1
      omega
    · exact (Chg.of_below hb).trans hc2 (fun b _ hb => by show TB w b; exact hb ▸ hg)
end Go.Proofs.Ytkpkjpdhlmjchaa
