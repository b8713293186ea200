/- least: Quick: MinFunc and least by the second closure; Quick. -/
import Derived.Test.YtnmmjchhinfbpaaLeastZ
import Derived.Deep.Cut
import Derived.Laws.EntriesVeiled
namespace Go.Proofs.Ytnmmjchhinfbpaa
open Go Go.RowKit Go.Deep Go.Maps Go.ChangeMaps

def betterQ (kb : Bk → Int) (a b : Bk) : Bk := if decide (qordI (kb b) (kb a) b.id a.id < 0) then b else a
def foldQ (kb : Bk → Int) (l : List Bk) : Bk := match l with | [] => bk0 | x :: r => r.foldl (betterQ kb) x
theorem foldQ_snoc (kb : Bk → Int) (l : List Bk) (y : Bk) (h : l ≠ []) : foldQ kb (l ++ [y]) = betterQ kb (foldQ kb l) y := by
  cases l with
  | nil => exact absurd rfl h
  | cons x r =>
    show (r ++ [y]).foldl (betterQ kb) x = betterQ kb (r.foldl (betterQ kb) x) y
    rw [List.foldl_append, List.foldl_cons, List.foldl_nil]
theorem foldQ_take (kb : Bk → Int) (l : List Bk) (k : Nat) (x : Bk) (h : l[k]? = some x) : foldQ kb (l.take (k + 1)) = if k = 0 then x else betterQ kb (foldQ kb (l.take k)) x := by
  obtain ⟨hk, rfl⟩ := List.getElem?_eq_some_iff.1 h
  rw [List.take_succ_eq_append_getElem hk]
  by_cases h0 : k = 0
  · subst h0; simp [foldQ]
  · rw [if_neg h0, foldQ_snoc]
    intro e
    have := congrArg List.length e
    rw [List.length_take, List.length_nil] at this
    omega
theorem foldQ_mem {kb : Bk → Int} {l : List Bk} (h : l ≠ []) : foldQ kb l ∈ l := by
  cases l with
  | nil => exact absurd rfl h
  | cons x r =>
    have key : ∀ (r : List Bk) (x : Bk), r.foldl (betterQ kb) x ∈ x :: r := by
      intro r
      induction r with
      | nil => intro x; simp
      | cons y r ih =>
        intro x
        have := ih (betterQ kb x y)
        rw [List.foldl_cons]
        rcases List.mem_cons.1 this with e | e
        · rw [e]; unfold betterQ; split <;> simp
        · simp [e]
    exact key r x
def quickId (kb : Bk → Int) (l : List Bk) : Int := if 0 < l.length then (foldQ kb l).id else 0
set_option maxRecDepth 100000 in
set_option maxHeartbeats 4000000 in
theorem minfunc_q (l : List Bk) (A : Option Addr) (c gc gt gl g b bm n : Nat) (M : LM) (f : Int → Nat) (kb : Bk → Int) (w : World) (hr : Reads w w.heap.size 6 A l.length (l.flatMap Bk.cells)) (hl : l.length ≤ 1000000) (h0 : 0 < l.length) (h : Q2St w gc gt gl g b bm n M f) (hwf : ∀ x ∈ l, bkWf x) (hkb : ∀ x ∈ l, BurdenIs (f x.id) (lmGet M x.id) x.w (kb x)) :
    Calls Try.prog 81 #[.slice A l.length c, .func (Fn.func 54) #[] #[.pointer (some ⟨gc, 0, none⟩)]] w fun e w' => e = .returned (foldQ kb l).val ∧ Below w.heap.size w w' := by
  have hlt1 : ¬ ((l.length : Int) < 1) := by omega
  have hlt1b : decide ((l.length : Int) < 1) = false := by simp; omega
  obtain ⟨ad, x, rfl, hbl, hx, c0, c1, c2, c3, c4, c5⟩ := bk_at hr h0
  have hf1 : foldQ kb (l.take 1) = x := by
    have := foldQ_take kb l 0 x hx
    rw [if_pos rfl] at this
    exact this
  have hpos : (0 : Int) < (l.length : Int) := by omega
  have e00 : ad.add (0 * 6) = ad := by unfold Addr.add; cases ad; simp_all
  rw [e00] at c0 c1 c2 c3 c4 c5
  have hz : Addr.add ad 0 = ad := by unfold Addr.add; cases ad; simp_all
  obtain ⟨xi, xw, xs, xv, xh, xo⟩ := x
  dsimp only at *
  replace hf1 := Lib.hid hf1
  replace hx := Lib.hid hx
  replace e00 := Lib.hid e00
  go_enter Try.func81, Try.ntmps81
  go_wp2_with fail
  go_loopw [6] (fun i wr => ∃ k : Nat, 1 ≤ k ∧ k ≤ l.length ∧ i = .int .i64 (k : Nat) ∧ Blk wr w.heap.size 46 #[.int .i64 0, .int .i64 0, .int .i64 0, .bool false, .int .u64 0, .int .u64 0] ∧ Blk wr (w.heap.size + 1) 46 (foldQ kb (l.take k)).arr ∧ Below w.heap.size w wr) (fun i _ => l.length - (intOf i).toNat)
  case atStart => exact ⟨1, by omega, by omega, rfl, (Blk.new w _ _).alloc _, by rw [hf1.out]; have hn := Blk.new (w.alloc (.cells #[.int .i64 0, .int .i64 0, .int .i64 0, .bool false, .int .u64 0, .int .u64 0] 46)) 46 #[.int .i64 xi, .int .i64 xw, .int .i64 xs, .bool xv, .int .u64 xh, .int .u64 xo]; simp only [World.size_alloc] at hn; exact hn, below_alloc (below_alloc (Below.refl _ _) _) _⟩
  case round =>
    obtain ⟨k, hk1, hk, rfl, hB0, hB1, hb⟩ := hrel
    clear c0 c1 c2 c3 c4 c5 hx hf1
    by_cases hlt : k < l.length
    · have hlti : (k : Int) < (l.length : Int) := by omega
      obtain ⟨ad', x, hade, hbl', hx, c0, c1, c2, c3, c4, c5⟩ := bk_at (hr.below hb) hlt
      obtain rfl : ad = ad' := by simpa using hade
      have hstep := foldQ_take kb l k x hx
      rw [if_neg (by omega)] at hstep
      unfold betterQ at hstep
      have hxw := hwf x (List.mem_of_getElem? hx)
      have hfm := foldQ_mem (kb := kb) (l := l.take k) (by intro e; have := congrArg List.length e; rw [List.length_take, List.length_nil] at this; omega)
      have hfl := List.mem_of_mem_take hfm
      have hBt := fun W hW => quick2_any x (foldQ kb (l.take k)) gc gt gl g b bm n M f (kb x) (kb (foldQ kb (l.take k))) W ((h.call hb).call hW) hxw (hwf _ hfl) (hkb _ (List.mem_of_getElem? hx)) (hkb _ hfl)
      generalize foldQ kb (l.take k) = y at *
      generalize qordI (kb x) (kb y) x.id y.id = oi at *
      have BT := Lib.hid fun (W : World) (hW : Below wr.heap.size wr W) => hBt W hW
      obtain ⟨xi, xw, xs, xv, xh, xo⟩ := x
      obtain ⟨yi, yw, ys, yv, yh, yo⟩ := y
      have hz1 := hB1.lt
      have hz0 := hB0.lt
      obtain ⟨⟨d0, d1, d2, d3, d4, d5⟩, -⟩ := hB1.six
      unfold Bk.arr Bk.val at *
      dsimp only at *
      clear hBt hfm hfl hxw hx h hwf hade hr hkb
      obtain ⟨t, ht⟩ : ∃ t, decide (oi < 0) = t := ⟨_, rfl⟩
      rw [ht] at hstep
      replace hstep := Lib.hid hstep
      go_wp2_with fail
      refine wp_region_still_tail 6 (by kernel_rfl) (by kernel_rfl) ?_
      simp only [List.take_succ_cons, List.take_zero, List.drop_succ_cons, List.drop_zero]
      repeat still_step
      refine wpStill_nil ?_
      change wpList _ _ _ _ _ wr.drew
      have A0 : Blk wr.drew w.heap.size 46 #[.int .i64 0, .int .i64 0, .int .i64 0, .bool false, .int .u64 0, .int .u64 0] := hB0
      have A1 : Blk wr.drew (w.heap.size + 1) 46 #[.int .i64 yi, .int .i64 yw, .int .i64 ys, .bool yv, .int .u64 yh, .int .u64 yo] := hB1
      have hb1 : Below w.heap.size w wr.drew := hb.drew
      have hB2 := BT.out wr.drew (Below.refl _ _).drew
      replace hB2 := Lib.hid hB2
      clear hB0 hB1 hb BT d0 d1 d2 d3 d4 d5
      have hC : (wr.drew.cell? (ad.add (k * 6)) = some (.int .i64 xi) ∧ wr.drew.cell? ⟨(ad.add (k * 6)).block, (ad.add (k * 6)).off + 1, none⟩ = some (.int .i64 xw) ∧ wr.drew.cell? ⟨(ad.add (k * 6)).block, (ad.add (k * 6)).off + 2, none⟩ = some (.int .i64 xs) ∧ wr.drew.cell? ⟨(ad.add (k * 6)).block, (ad.add (k * 6)).off + 3, none⟩ = some (.bool xv) ∧ wr.drew.cell? ⟨(ad.add (k * 6)).block, (ad.add (k * 6)).off + 4, none⟩ = some (.int .u64 xh) ∧ wr.drew.cell? ⟨(ad.add (k * 6)).block, (ad.add (k * 6)).off + 5, none⟩ = some (.int .u64 xo)) := ⟨c0, c1, c2, c3, c4, c5⟩
      clear c0 c1 c2 c3 c4 c5
      generalize wr.drew = w1 at *
      go_wp2_with fail
      refine hB2.out.mono ?_
      rintro e w2 ⟨rfl, hb2⟩
      have D0 := A0.call hb2
      have D1 := A1.call hb2
      have hbB := below_chain hb2 hb1
      obtain ⟨g0, g1, g2, g3, g4, g5⟩ := hC
      have c0 := (hb2.cell (p := ad.add (k * 6)) (block_lt_of_cell g0)).trans g0
      have c1 := (hb2.cell (p := ⟨(ad.add (k * 6)).block, (ad.add (k * 6)).off + 1, none⟩) (block_lt_of_cell g1)).trans g1
      have c2 := (hb2.cell (p := ⟨(ad.add (k * 6)).block, (ad.add (k * 6)).off + 2, none⟩) (block_lt_of_cell g2)).trans g2
      have c3 := (hb2.cell (p := ⟨(ad.add (k * 6)).block, (ad.add (k * 6)).off + 3, none⟩) (block_lt_of_cell g3)).trans g3
      have c4 := (hb2.cell (p := ⟨(ad.add (k * 6)).block, (ad.add (k * 6)).off + 4, none⟩) (block_lt_of_cell g4)).trans g4
      have c5 := (hb2.cell (p := ⟨(ad.add (k * 6)).block, (ad.add (k * 6)).off + 5, none⟩) (block_lt_of_cell g5)).trans g5
      clear g0 g1 g2 g3 g4 g5 A0 A1 hb1 hb2 hB2
      obtain ⟨-, q0, q1, q2, q3, q4, q5⟩ := D1.six
      obtain ⟨⟨d0, d1, d2, d3, d4, d5⟩, -⟩ := D1.six
      cases t
      · simp only [Bool.false_eq_true, if_false] at hstep
        go_wp2_with fail
        go_roundw
        case rel => exact ⟨k + 1, by omega, by omega, by go_num, D0, by rw [hstep.out]; exact D1, hbB⟩
        case measure => simp [intOf]; omega
      · simp only [if_true] at hstep
        go_wp2_with fail
        go_roundw
        case rel => exact ⟨k + 1, by omega, by omega, by go_num, blk_far6 D0 (by omega), by rw [hstep.out]; exact blk_set6 D1, set6 hbB (by omega)⟩
        case measure => simp [intOf]; omega
    · obtain rfl : k = l.length := by omega
      have hlti : ¬ (l.length : Int) < (l.length : Int) := by omega
      rw [List.take_length] at hB1
      obtain ⟨y, hy⟩ : ∃ y, foldQ kb l = y := ⟨_, rfl⟩
      rw [hy] at hB1
      obtain ⟨yi, yw, ys, yv, yh, yo⟩ := y
      replace hy := Lib.hid hy
      unfold Bk.arr at hB1
      dsimp only at hB1
      obtain ⟨⟨d0, d1, d2, d3, d4, d5⟩, -⟩ := hB1.six
      obtain ⟨⟨e0, e1, e2, e3, e4, e5⟩, q0, q1, q2, q3, q4, q5⟩ := hB0.six
      have hfin := blk_set6 (a0 := .int .i64 yi) (a1 := .int .i64 yw) (a2 := .int .i64 ys) (a3 := .bool yv) (a4 := .int .u64 yh) (a5 := .int .u64 yo) hB0
      obtain ⟨⟨f0, f1, f2, f3, f4, f5⟩, -⟩ := hfin.six
      clear h hwf hr hfin hkb
      go_wp2_with fail
      refine bodyPost_ret (v := .agg #[.int .i64 yi, .int .i64 yw, .int .i64 ys, .bool yv, .int .u64 yh, .int .u64 yo]) (by simp [results, Try.results81, go_sem, f0, f1, f2, f3, f4, f5]) rfl ?_
      exact ⟨by rw [hy.out], set6 hb (by omega)⟩
set_option maxRecDepth 100000 in
set_option maxHeartbeats 2000000 in
theorem least_q (ver : Int) (l : List Bk) (A : Option Addr) (c gc gt gl g b bm n : Nat) (M : LM) (f : Int → Nat) (kb : Bk → Int) (w : World) (hr : Reads w w.heap.size 6 A l.length (l.flatMap Bk.cells)) (hl : l.length ≤ 1000000) (h : Q2St w gc gt gl g b bm n M f) (hwf : ∀ x ∈ l, bkWf x) (hkb : ∀ x ∈ l, BurdenIs (f x.id) (lmGet M x.id) x.w (kb x)) :
    Calls Try.prog 47 #[.agg #[.int .i64 ver, .slice A l.length c], .func (Fn.func 54) #[] #[.pointer (some ⟨gc, 0, none⟩)]] w fun e w' => e = .returned (.tuple #[.int .i64 (quickId kb l), .bool (decide (0 < l.length))]) ∧ Below w.heap.size w w' := by
  have B0 := Blk.new w 37 #[.int .i64 ver, .slice A l.length c]
  have hb0 : Below w.heap.size w (w.alloc (.cells #[.int .i64 ver, .slice A l.length c] 37)) := below_alloc (Below.refl _ _) _
  have s1 := B0.cell 1
  simp only [List.getElem?_toArray, List.getElem?_cons_zero, List.getElem?_cons_succ] at s1
  by_cases h0 : 0 < l.length
  · have e1 : quickId kb l = (foldQ kb l).id := by unfold quickId; rw [if_pos h0]
    have e2 : decide (0 < l.length) = true := by simpa using h0
    rw [e1, e2]
    have e0 : ((l.length : Int) == 0) = false := by rw [beq_eq_false_iff_ne]; omega
    have K := fun W (hb : Below w.heap.size w W) => minfunc_q l A c gc gt gl g b bm n M f kb W ((hr.below hb).more hb.size) hl h0 (h.call hb) hwf hkb
    generalize foldQ kb l = y at *
    obtain ⟨yi, yw, ys, yv, yh, yo⟩ := y
    unfold Bk.val at K
    dsimp only at *
    replace K := Lib.hid K
    clear e1 e2 h hwf hr h0 hkb
    go_enter Try.func47, Try.ntmps47
    go_wp2_with fail
    generalize w.alloc (.cells #[.int .i64 ver, .slice A l.length c] 37) = w0 at *
    refine (K.out _ hb0).mono ?_
    rintro e w1 ⟨rfl, hb1⟩
    have hb2 := below_chain hb1 hb0
    clear hb1 hb0 B0 s1
    have hfd : (Instr.field 46 (.agg #[.int .i64 yi, .int .i64 yw, .int .i64 ys, .bool yv, .int .u64 yh, .int .u64 yo]) 0).run Try.prog w1 = .ok (.int .i64 yi) w1 := by kernel_rfl
    go_wp2_with fail
    go_ret2
    exact ⟨rfl, hb2⟩
  · have e1 : quickId kb l = 0 := by unfold quickId; rw [if_neg h0]
    have e2 : decide (0 < l.length) = false := by simpa using h0
    rw [e1, e2]
    have e0 : ((l.length : Int) == 0) = true := by rw [beq_iff_eq]; omega
    clear e1 e2 h hwf hr h0 hkb
    go_enter Try.func47, Try.ntmps47
    go_wp2_with fail
    go_ret2
    exact ⟨rfl, hb0⟩
set_option maxRecDepth 100000 in
set_option maxHeartbeats 4000000 in
theorem quick_any (ver : Int) (l : List Bk) (A : Option Addr) (c g b bm n : Nat) (M : LM) (f : Int → Nat) (kb : Bk → Int) (w : World) (hr : Reads w w.heap.size 6 A l.length (l.flatMap Bk.cells)) (hl : l.length ≤ 1000000) (h : LoadAt w g b M) (hm : Fmap w bm n f) (hwf : ∀ x ∈ l, bkWf x) (hkb : ∀ x ∈ l, BurdenIs (f x.id) (lmGet M x.id) x.w (kb x)) :
    Calls Try.prog 22 #[.agg #[.int .i64 ver, .slice A l.length c], .pointer (some ⟨g, 0, none⟩), .map (some bm)] w fun e w' => e = .returned (.tuple #[.int .i64 (quickId kb l), .bool (decide (0 < l.length))]) ∧ Below w.heap.size w w' := by
  obtain ⟨w0, hw0⟩ : ∃ w0, w0 = (((w.alloc (.cells #[.int .i64 ver, .slice A l.length c] 37)).alloc (.cells #[.pointer (some ⟨g, 0, none⟩)] 57)).alloc (.cells #[.map (some bm)] 61)).alloc (.cells #[q1fn (w.heap.size + 1 + 1) (w.heap.size + 1)] 107) := ⟨_, rfl⟩
  have hb0 : Below w.heap.size w w0 := hw0 ▸ below_alloc (below_alloc (below_alloc (below_alloc (Below.refl _ _) _) _) _) _
  have S0 : Blk w0 w.heap.size 37 #[.int .i64 ver, .slice A l.length c] := hw0 ▸ (((Blk.new w _ _).alloc _).alloc _).alloc _
  have P0 : Blk w0 (w.heap.size + 1) 57 #[.pointer (some ⟨g, 0, none⟩)] := by
    have := Blk.new (w.alloc (.cells #[.int .i64 ver, .slice A l.length c] 37)) 57 #[.pointer (some ⟨g, 0, none⟩)]
    simp only [World.size_alloc] at this
    rw [hw0]; exact (this.alloc _).alloc _
  have T0 : Blk w0 (w.heap.size + 1 + 1) 61 #[.map (some bm)] := by
    have := Blk.new ((w.alloc (.cells #[.int .i64 ver, .slice A l.length c] 37)).alloc (.cells #[.pointer (some ⟨g, 0, none⟩)] 57)) 61 #[.map (some bm)]
    simp only [World.size_alloc] at this
    rw [hw0]; exact this.alloc _
  have F0 : Blk w0 (w.heap.size + 1 + 1 + 1) 107 #[q1fn (w.heap.size + 1 + 1) (w.heap.size + 1)] := by
    have := Blk.new (((w.alloc (.cells #[.int .i64 ver, .slice A l.length c] 37)).alloc (.cells #[.pointer (some ⟨g, 0, none⟩)] 57)).alloc (.cells #[.map (some bm)] 61)) 107 #[q1fn (w.heap.size + 1 + 1) (w.heap.size + 1)]
    simp only [World.size_alloc] at this
    rw [hw0]; exact this
  have hQ : Q2St w0 (w.heap.size + 1 + 1 + 1) (w.heap.size + 1 + 1) (w.heap.size + 1) g b bm n M f := ⟨⟨T0.cell 0, P0.cell 0, h.call hb0, hm.call hb0⟩, F0.cell 0⟩
  have L := least_q ver l A c (w.heap.size + 1 + 1 + 1) (w.heap.size + 1 + 1) (w.heap.size + 1) g b bm n M f kb w0 ((hr.below hb0).more hb0.size) hl hQ hwf hkb
  generalize quickId kb l = yi at *
  generalize decide (0 < l.length) = yo at *
  replace L := Lib.hid L
  have s0 := S0.cell 0
  have s1 := S0.cell 1
  simp only [List.getElem?_toArray, List.getElem?_cons_zero, List.getElem?_cons_succ] at s0 s1
  clear h hm hwf hkb hr hQ P0 T0 F0 S0
  go_enter Try.func22, Try.ntmps22
  go_upto_region 2 with (fail)
  rw [← hw0]
  clear hw0
  go_wp2_with fail
  refine L.out.mono ?_
  rintro e w1 ⟨rfl, hb1⟩
  have hb2 := below_chain hb1 hb0
  clear hb1 hb0 s0 s1 L
  go_wp2_with fail
  go_ret2
  exact ⟨rfl, hb2⟩
end Go.Proofs.Ytnmmjchhinfbpaa
