/- two: better, fold. -/
import Derived.Test.YtdkcjfcjckpjcaaTwoB
namespace Go.Proofs.Ytdkcjfcjckpjcaa
open Go Go.RowKit Go.Deep

theorem better_any (g : Nat) (w : World) : Calls Try.prog 116 #[.pointer (some ⟨g, 0, none⟩)] w fun e w' => e = .returned (.func (Fn.func 129) #[] #[.pointer (some ⟨w.heap.size, 0, none⟩)]) ∧ w' = w.alloc (.cells #[.pointer (some ⟨g, 0, none⟩)] 93) := by
  go_enter Try.func116, Try.ntmps116
  go_wp2_with fail
  go_ret
  exact ⟨rfl, rfl⟩
def foldB (M : LM) (l : List Bk) : Bk := match l with | [] => bk0 | x :: r => r.foldl (betterB M) x
theorem foldB_one (M : LM) (x : Bk) : foldB M [x] = x := rfl
theorem foldB_snoc (M : LM) (l : List Bk) (y : Bk) (h : l ≠ []) : foldB M (l ++ [y]) = betterB M (foldB M l) y := by
  cases l with
  | nil => exact absurd rfl h
  | cons x r => simp [foldB, List.foldl_append]

theorem blk_set6 {w : World} {g : Nat} {t : TypeId} {c0 c1 c2 c3 c4 c5 a0 a1 a2 a3 a4 a5 : Value} (h : Blk w g t #[c0, c1, c2, c3, c4, c5]) :
    Blk ((((((w.setCell ⟨g, 0, none⟩ a0).setCell ⟨g, 1, none⟩ a1).setCell ⟨g, 2, none⟩ a2).setCell ⟨g, 3, none⟩ a3).setCell ⟨g, 4, none⟩ a4).setCell ⟨g, 5, none⟩ a5) g t #[a0, a1, a2, a3, a4, a5] := by
  simpa using (((((h.set_ 0 a0).set_ 1 a1).set_ 2 a2).set_ 3 a3).set_ 4 a4).set_ 5 a5
theorem blk_far6 {w : World} {g g' : Nat} {t : TypeId} {cs : Array Value} {a0 a1 a2 a3 a4 a5 : Value} (h : Blk w g' t cs) (hne : g' ≠ g) :
    Blk ((((((w.setCell ⟨g, 0, none⟩ a0).setCell ⟨g, 1, none⟩ a1).setCell ⟨g, 2, none⟩ a2).setCell ⟨g, 3, none⟩ a3).setCell ⟨g, 4, none⟩ a4).setCell ⟨g, 5, none⟩ a5) g' t cs :=
  (((((h.far (p := ⟨g, 0, none⟩) hne a0).far (p := ⟨g, 1, none⟩) hne a1).far (p := ⟨g, 2, none⟩) hne a2).far (p := ⟨g, 3, none⟩) hne a3).far (p := ⟨g, 4, none⟩) hne a4).far (p := ⟨g, 5, none⟩) hne a5
theorem Blk.six {w : World} {g : Nat} {t : TypeId} {c0 c1 c2 c3 c4 c5 : Value} (h : Blk w g t #[c0, c1, c2, c3, c4, c5]) :
    (w.cell? ⟨g, 0, none⟩ = some c0 ∧ w.cell? ⟨g, 1, none⟩ = some c1 ∧ w.cell? ⟨g, 2, none⟩ = some c2 ∧ w.cell? ⟨g, 3, none⟩ = some c3 ∧ w.cell? ⟨g, 4, none⟩ = some c4 ∧ w.cell? ⟨g, 5, none⟩ = some c5) ∧
      w.frozen? ⟨g, 0, none⟩ = false ∧ w.frozen? ⟨g, 1, none⟩ = false ∧ w.frozen? ⟨g, 2, none⟩ = false ∧ w.frozen? ⟨g, 3, none⟩ = false ∧ w.frozen? ⟨g, 4, none⟩ = false ∧ w.frozen? ⟨g, 5, none⟩ = false :=
  ⟨⟨h.cell 0, h.cell 1, h.cell 2, h.cell 3, h.cell 4, h.cell 5⟩, h.frozen 0, h.frozen 1, h.frozen 2, h.frozen 3, h.frozen 4, h.frozen 5⟩
abbrev Bk.arr (b : Bk) : Array Value := #[.int .i64 b.id, .int .i64 b.w, .int .i64 b.st, .bool b.v, .int .u64 b.hi, .int .u64 b.lo]
theorem foldB_take (M : LM) (l : List Bk) (k : Nat) (x : Bk) (h : l[k]? = some x) : foldB M (l.take (k + 1)) = if k = 0 then x else betterB M (foldB M (l.take k)) x := by
  obtain ⟨hk, rfl⟩ := List.getElem?_eq_some_iff.1 h
  rw [List.take_succ_eq_append_getElem hk]
  by_cases h0 : k = 0
  · subst h0; simp [foldB]
  · rw [if_neg h0, foldB_snoc]
    intro e
    have := congrArg List.length e
    rw [List.length_take, List.length_nil] at this
    omega
theorem betterB_wf {M : LM} {a b : Bk} (ha : bkWf a) (hb : bkWf b) : bkWf (betterB M a b) := by
  unfold betterB; split <;> assumption
theorem foldB_wf {M : LM} {l : List Bk} (h : ∀ x ∈ l, bkWf x) : bkWf (foldB M l) := by
  cases l with
  | nil => show bkWf bk0; unfold bkWf; decide
  | cons x r =>
    have key : ∀ (r : List Bk) (x : Bk), bkWf x → (∀ y ∈ r, bkWf y) → bkWf (r.foldl (betterB M) x) := by
      intro r
      induction r with
      | nil => intro x hx _; exact hx
      | cons y r ih => intro x hx hr; exact ih _ (betterB_wf hx (hr y (by simp))) fun z hz => hr z (by simp [hz])
    exact key r x (h x (by simp)) fun y hy => h y (by simp [hy])

set_option maxRecDepth 100000 in
set_option maxHeartbeats 4000000 in
theorem fold_any (l : List Bk) (A : Option Addr) (c gc g b : Nat) (M : LM) (w : World) (hr : Reads w w.heap.size 6 A l.length (l.flatMap Bk.cells)) (hl : l.length ≤ 1000000) (hc : w.cell? ⟨gc, 0, none⟩ = some (.pointer (some ⟨g, 0, none⟩))) (h : LoadAt w g b M) (hwf : ∀ x ∈ l, bkWf x) :
    Calls Try.prog 115 #[.slice A l.length c, .func (Fn.func 129) #[] #[.pointer (some ⟨gc, 0, none⟩)]] w fun e w' => e = .returned (.tuple #[(foldB M l).val, .bool (decide (0 < l.length))]) ∧ Below w.heap.size w w' := by
  go_enter Try.func115, Try.ntmps115
  go_wp2_with fail
  go_loopw [11] (fun i wr => ∃ k : Nat, k ≤ l.length ∧ i = .int .i64 (k : Nat) ∧ Blk wr w.heap.size 106 #[.int .i64 0, .int .i64 0, .int .i64 0, .bool false, .int .u64 0, .int .u64 0] ∧ Blk wr (w.heap.size + 1) 106 (foldB M (l.take k)).arr ∧ Below w.heap.size w wr) (fun i _ => l.length - (intOf i).toNat)
  case atStart => exact ⟨0, by omega, rfl, (Blk.new w _ _).alloc _, by have hn := Blk.new (w.alloc (.cells #[.int .i64 0, .int .i64 0, .int .i64 0, .bool false, .int .u64 0, .int .u64 0] 106)) 106 #[.int .i64 0, .int .i64 0, .int .i64 0, .bool false, .int .u64 0, .int .u64 0]; simp only [World.size_alloc] at hn; exact hn, ((Below.refl _ _).alloc (Nat.le_refl _) _).alloc (by simp) _⟩
  case round =>
    obtain ⟨k, hk, rfl, hB0, hB1, hb⟩ := hrel
    by_cases hlt : k < l.length
    · have hlti : (k : Int) < (l.length : Int) := by omega
      obtain ⟨ad, x, rfl, hbl, hx, c0, c1, c2, c3, c4, c5⟩ := bk_at (hr.below hb) hlt
      have hstep := foldB_take M l k x hx
      have hxw := hwf x (List.mem_of_getElem? hx)
      have hfw := foldB_wf (M := M) (l := l.take k) fun y hy => hwf y (List.mem_of_mem_take hy)
      have hBt := better1_any (foldB M (l.take k)) x g b gc M
      have hLr := h.call hb
      have hcr := (hb.cell (p := ⟨gc, 0, none⟩) (block_lt_of_cell hc)).trans hc
      generalize foldB M (l.take k) = y at *
      obtain ⟨xi, xw, xs, xv, xh, xo⟩ := x
      obtain ⟨yi, yw, ys, yv, yh, yo⟩ := y
      have hz1 := hB1.lt
      have hz0 := hB0.lt
      obtain ⟨⟨d0, d1, d2, d3, d4, d5⟩, q0, q1, q2, q3, q4, q5⟩ := hB1.six
      unfold Bk.arr Bk.val at *
      dsimp only at *
      by_cases h0 : k = 0
      · rw [if_pos h0] at hstep
        have h0b : ((k : Int) == 0) = true := by rw [h0]; rfl
        replace hstep := Lib.hid hstep
        replace h0 := Lib.hid h0
        clear hBt hLr hcr hfw hxw hx h hc hwf
        go_wp2_with fail
        go_roundw
        case rel => exact ⟨k + 1, by omega, by go_num, (blk_far6 hB0 (by omega)).alloc _, by rw [hstep.out]; exact (blk_set6 hB1).alloc _, below_alloc (set6 hb (by omega)) _⟩
        case measure => simp [intOf]; omega
      · rw [if_neg h0] at hstep
        have h0b : ((k : Int) == 0) = false := by rw [beq_eq_false_iff_ne]; omega
        replace hstep := Lib.hid hstep
        replace h0 := Lib.hid h0
        have BT := Lib.hid fun (W : World) (hW : Below wr.heap.size wr W) => hBt W ((hW.cell (p := ⟨gc, 0, none⟩) (block_lt_of_cell hcr)).trans hcr) (hLr.call hW) hfw hxw
        clear hBt hLr hcr hfw hxw hx h hc hwf
        obtain ⟨z, hz⟩ : ∃ z, betterB M ⟨yi, yw, ys, yv, yh, yo⟩ ⟨xi, xw, xs, xv, xh, xo⟩ = z := ⟨_, rfl⟩
        rw [hz] at BT
        have hst2 := hstep.out
        rw [hz] at hst2
        clear hstep hz
        obtain ⟨zi, zw, zs, zv, zh, zo⟩ := z
        replace hst2 := Lib.hid hst2
        dsimp only at BT
        go_wp2_with fail
        refine (BT.out _ (by repeat (first | exact Below.refl _ _ | assumption | refine below_alloc ?_ _ | refine below_chain (by assumption) ?_ | refine below_call2 (by assumption) ?_ (by first | omega | (simp; done) | (simp; omega) | (simp [World.setCell]; omega)) | refine below_drewN ?_ _ | refine Below.drew ?_ | refine Below.alloc ?_ (by first | omega | (simp; done) | (simp; omega) | (simp [World.setCell]; omega)) _ | refine Below.setCell ?_ (by first | omega | (simp; done) | (simp; omega) | (simp [World.setCell]; omega)) _))).mono ?_
        rintro e w2 ⟨rfl, hb2⟩
        have hC1 := (hB1.alloc (.cells #[.int .i64 xi, .int .i64 xw, .int .i64 xs, .bool xv, .int .u64 xh, .int .u64 xo] 106)).call hb2
        have hC0 := (hB0.alloc (.cells #[.int .i64 xi, .int .i64 xw, .int .i64 xs, .bool xv, .int .u64 xh, .int .u64 xo] 106)).call hb2
        have hbB := below_chain hb2 (below_alloc hb _)
        clear BT d0 d1 d2 d3 d4 d5 q0 q1 q2 q3 q4 q5 hB0 hB1 hb hb2 c0 c1 c2 c3 c4 c5
        obtain ⟨⟨d0, d1, d2, d3, d4, d5⟩, q0, q1, q2, q3, q4, q5⟩ := hC1.six
        go_wp2_with fail
        go_roundw
        case rel => exact ⟨k + 1, by omega, by go_num, blk_far6 hC0 (by omega), by rw [hst2.out]; exact blk_set6 hC1, set6 hbB (by omega)⟩
        case measure => simp [intOf]; omega
    · obtain rfl : k = l.length := by omega
      have hlti : ¬ (l.length : Int) < (l.length : Int) := by omega
      rw [List.take_length] at hB1
      obtain ⟨y, hy⟩ : ∃ y, foldB M l = y := ⟨_, rfl⟩
      rw [hy] at hB1
      obtain ⟨yi, yw, ys, yv, yh, yo⟩ := y
      replace hy := Lib.hid hy
      unfold Bk.arr at hB1
      dsimp only at hB1
      obtain ⟨⟨d0, d1, d2, d3, d4, d5⟩, -⟩ := hB1.six
      obtain ⟨⟨e0, e1, e2, e3, e4, e5⟩, q0, q1, q2, q3, q4, q5⟩ := hB0.six
      obtain ⟨o, ho⟩ : ∃ o, decide (0 < l.length) = o := ⟨_, rfl⟩
      replace ho := Lib.hid ho
      clear h hc hwf hr
      go_wp2_with fail
      refine bodyPost_ret (v := .tuple #[.agg #[.int .i64 yi, .int .i64 yw, .int .i64 ys, .bool yv, .int .u64 yh, .int .u64 yo], .bool o]) (by simp [results, Try.results115, go_sem, e0, e1, e2, e3, e4, e5, ho.out]) rfl ?_
      exact ⟨by rw [hy.out, ho.out], set6 hb (by omega)⟩
end Go.Proofs.Ytdkcjfcjckpjcaa
