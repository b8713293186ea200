/- backends; two and its reference: Draw. the reference's Draw; the closure that is the better one of two; folds. two: better, fold. two: Best, Pick. two: Pick; the reference's Pick of the least loaded one. the reference's Best and Pick. -/
import Derived.Test.YtkpkjpdhlmjchaaLoadE
import Derived.Test.YtkpkjpdhlmjchaaNum
import Derived.Deep.RegionHeld3
namespace Go.Proofs.Ytkpkjpdhlmjchaa
open Go Go.RowKit Go.Deep

theorem hdrew (w : World) : w.drew.heap = w.heap := rfl
theorem blk6_facts {w1 W w4 : World} {g : Nat} {t : TypeId} {c0 c1 c2 c3 c4 c5 : Value} (h : Blk w1 g t #[c0, c1, c2, c3, c4, c5]) (hW : W.heap = w1.heap) (hb : Below W.heap.size W w4) :
    (w4.cell? ⟨g, 0, none⟩ = some c0 ∧ w4.cell? ⟨g, 1, none⟩ = some c1 ∧ w4.cell? ⟨g, 2, none⟩ = some c2 ∧ w4.cell? ⟨g, 3, none⟩ = some c3 ∧ w4.cell? ⟨g, 4, none⟩ = some c4 ∧ w4.cell? ⟨g, 5, none⟩ = some c5) ∧
      w4.frozen? ⟨g, 0, none⟩ = false ∧ w4.frozen? ⟨g, 1, none⟩ = false ∧ w4.frozen? ⟨g, 2, none⟩ = false ∧ w4.frozen? ⟨g, 3, none⟩ = false ∧ w4.frozen? ⟨g, 4, none⟩ = false ∧ w4.frozen? ⟨g, 5, none⟩ = false := by
  have h2 : Blk W g t #[c0, c1, c2, c3, c4, c5] := by unfold Blk at h ⊢; rw [hW]; exact h
  have h3 := h2.call hb
  exact ⟨⟨h3.cell 0, h3.cell 1, h3.cell 2, h3.cell 3, h3.cell 4, h3.cell 5⟩, h3.frozen 0, h3.frozen 1, h3.frozen 2, h3.frozen 3, h3.frozen 4, h3.frozen 5⟩
theorem elem6_facts {w1 : World} {s v0 v1 v2 v3 v4 v5 : Value} {x a0 a1 a2 a3 a4 a5 : Addr} (hs : w1.cell? x = some s)
    (h0 : w1.cell? a0 = some v0) (h1 : w1.cell? a1 = some v1) (h2 : w1.cell? a2 = some v2) (h3 : w1.cell? a3 = some v3) (h4 : w1.cell? a4 = some v4) (h5 : w1.cell? a5 = some v5) (W w4 : World) (hW : W.heap = w1.heap) (hb : Below W.heap.size W w4) :
    w4.cell? x = some s ∧ w4.cell? a0 = some v0 ∧ w4.cell? a1 = some v1 ∧ w4.cell? a2 = some v2 ∧ w4.cell? a3 = some v3 ∧ w4.cell? a4 = some v4 ∧ w4.cell? a5 = some v5 := by
  have key : ∀ {a : Addr} {v : Value}, w1.cell? a = some v → w4.cell? a = some v := fun {a v} h => by
    have hl := block_lt_of_cell h
    rw [World.cell?_of_block (w := w1) (w' := w4) (a := a) (by rw [hb.block a.block (by rw [hW]; exact hl), hW])]
    exact h
  exact ⟨key hs, key h0, key h1, key h2, key h3, key h4, key h5⟩theorem below_drw {w w1 : World} {B : Nat} (h : Below B w w1) : Below B w w1.drew := h.drew
theorem set6 {w w1 : World} {B g : Nat} {a0 a1 a2 a3 a4 a5 : Value} (h : Below B w w1) (hg : B ≤ g) :
    Below B w ((((((w1.setCell ⟨g, 0, none⟩ a0).setCell ⟨g, 1, none⟩ a1).setCell ⟨g, 2, none⟩ a2).setCell ⟨g, 3, none⟩ a3).setCell ⟨g, 4, none⟩ a4).setCell ⟨g, 5, none⟩ a5) :=
  (((((h.setCell (p := ⟨g, 0, none⟩) hg _).setCell (p := ⟨g, 1, none⟩) hg _).setCell (p := ⟨g, 2, none⟩) hg _).setCell (p := ⟨g, 3, none⟩) hg _).setCell (p := ⟨g, 4, none⟩) hg _).setCell (p := ⟨g, 5, none⟩) hg _
structure Bk where
  id : Int
  w : Int
  st : Int
  v : Bool
  hi : Int
  lo : Int
abbrev Bk.cells (b : Bk) : List Value := [.int .i64 b.id, .int .i64 b.w, .int .i64 b.st, .bool b.v, .int .u64 b.hi, .int .u64 b.lo]
abbrev Bk.val (b : Bk) : Value := .agg #[.int .i64 b.id, .int .i64 b.w, .int .i64 b.st, .bool b.v, .int .u64 b.hi, .int .u64 b.lo]
def bk0 : Bk := ⟨0, 0, 0, false, 0, 0⟩
theorem bk_at {w : World} {B : Nat} {A : Option Addr} {l : List Bk} (h : Reads w B 6 A l.length (l.flatMap Bk.cells)) {k : Nat} (hk : k < l.length) :
    ∃ ad b, A = some ad ∧ ad.block < B ∧ l[k]? = some b ∧ w.cell? (ad.add (k * 6)) = some (.int .i64 b.id) ∧ w.cell? ⟨(ad.add (k * 6)).block, (ad.add (k * 6)).off + 1, none⟩ = some (.int .i64 b.w) ∧
      w.cell? ⟨(ad.add (k * 6)).block, (ad.add (k * 6)).off + 2, none⟩ = some (.int .i64 b.st) ∧ w.cell? ⟨(ad.add (k * 6)).block, (ad.add (k * 6)).off + 3, none⟩ = some (.bool b.v) ∧
      w.cell? ⟨(ad.add (k * 6)).block, (ad.add (k * 6)).off + 4, none⟩ = some (.int .u64 b.hi) ∧ w.cell? ⟨(ad.add (k * 6)).block, (ad.add (k * 6)).off + 5, none⟩ = some (.int .u64 b.lo) := by
  obtain ⟨ad, rfl, hb, hc⟩ := h.rec_at Bk.cells (fun _ => rfl) hk
  exact ⟨ad, l[k], rfl, hb, List.getElem?_eq_getElem hk, hc 0 _ rfl, hc 1 _ rfl, hc 2 _ rfl, hc 3 _ rfl, hc 4 _ rfl, hc 5 _ rfl⟩

def drawB (l : List Bk) (x : Nat) : Bk := if l.length = 0 then bk0 else l.getD (scaleI x l.length).toNat bk0
def drawOk (l : List Bk) : Bool := decide (l.length ≠ 0)
theorem scale_nat (x n : Nat) (hx : x < 18446744073709551616) (h1 : 1 ≤ n) (h2 : n ≤ 2147483648) : ∃ k : Nat, scaleI x n = (k : Int) ∧ k < n := by
  refine ⟨(x * n / 18446744073709551616 : Nat), ?_, scale_lt x n hx h1⟩
  unfold scaleI
  rw [if_neg (by omega)]
  simp

set_option maxRecDepth 100000 in
set_option maxHeartbeats 2000000 in
theorem two_draw (ver : Int) (l : List Bk) (A : Option Addr) (c : Nat) (x : Nat) (w : World) (hx : x < 18446744073709551616) (hr : Reads w w.heap.size 6 A l.length (l.flatMap Bk.cells)) (hl : l.length ≤ 1000000) :
    Calls Try.prog 137 #[.agg #[.int .i64 ver, .slice A l.length c], .int .u64 x] w fun e w' => e = .returned (.tuple #[(drawB l x).val, .bool (drawOk l)]) ∧ Below w.heap.size w w' := by
  by_cases h0 : l.length = 0
  · have e0 : ((l.length : Int) == 0) = true := by rw [h0]; rfl
    obtain rfl : l = [] := List.eq_nil_of_length_eq_zero h0
    go_enter Try.func137, Try.ntmps137
    go_wp2_with fail
    refine bodyPost_ret (v := .tuple #[.agg #[.int .i64 0, .int .i64 0, .int .i64 0, .bool false, .int .u64 0, .int .u64 0], .bool false]) (by simp [results, Try.results137, go_sem, *]) rfl ?_
    exact ⟨rfl, (by repeat (first | exact Below.refl _ _ | assumption | refine below_alloc ?_ _ | refine below_chain (by assumption) ?_ | refine below_call2 (by assumption) ?_ (by first | omega | (simp; done) | (simp; omega) | (simp [World.setCell]; omega)) | refine below_drewN ?_ _ | refine Below.drew ?_ | refine Below.alloc ?_ (by first | omega | (simp; done) | (simp; omega) | (simp [World.setCell]; omega)) _ | refine Below.setCell ?_ (by first | omega | (simp; done) | (simp; omega) | (simp [World.setCell]; omega)) _))⟩
  · have e0 : ((l.length : Int) == 0) = false := by rw [beq_eq_false_iff_ne]; omega
    obtain ⟨k, hk, hkl⟩ := scale_nat x l.length hx (by omega) (by omega)
    have SC := fun W => scale_any x l.length W hx
    rw [hk] at SC
    obtain ⟨ad, b, rfl, hbl, hb, c0, c1, c2, c3, c4, c5⟩ := bk_at hr hkl
    have hkli : (k : Int) < (l.length : Int) := by omega
    have hfin : drawB l x = b := by unfold drawB; rw [if_neg h0, hk, Int.toNat_natCast, List.getD_eq_getElem?_getD, hb]; rfl
    have hok : drawOk l = true := by unfold drawOk; simp [h0]
    rw [hfin, hok]
    obtain ⟨bi, bw, bs, bv, bh, bo⟩ := b
    unfold Bk.val
    dsimp only at *
    replace SC := Lib.hid SC
    clear hk hb hfin hok h0
    have B1 : Blk ((w.alloc (.cells #[.int .i64 ver, .slice (some ad) l.length c] 36)).alloc (.cells #[.int .i64 0, .int .i64 0, .int .i64 0, .bool false, .int .u64 0, .int .u64 0] 47)) w.heap.size 36 #[.int .i64 ver, .slice (some ad) l.length c] := (Blk.new w _ _).alloc _
    have hb0 : Below w.heap.size w ((w.alloc (.cells #[.int .i64 ver, .slice (some ad) l.length c] 36)).alloc (.cells #[.int .i64 0, .int .i64 0, .int .i64 0, .bool false, .int .u64 0, .int .u64 0] 47)) := (by repeat (first | exact Below.refl _ _ | assumption | refine below_alloc ?_ _ | refine below_chain (by assumption) ?_ | refine below_call2 (by assumption) ?_ (by first | omega | (simp; done) | (simp; omega) | (simp [World.setCell]; omega)) | refine below_drewN ?_ _ | refine Below.drew ?_ | refine Below.alloc ?_ (by first | omega | (simp; done) | (simp; omega) | (simp [World.setCell]; omega)) _ | refine Below.setCell ?_ (by first | omega | (simp; done) | (simp; omega) | (simp [World.setCell]; omega)) _))
    have B2 := Blk.new (w.alloc (.cells #[.int .i64 ver, .slice (some ad) l.length c] 36)) 47 #[.int .i64 0, .int .i64 0, .int .i64 0, .bool false, .int .u64 0, .int .u64 0]
    simp only [World.size_alloc] at B2
    go_enter Try.func137, Try.ntmps137
    go_wp2_with fail
    generalize ((w.alloc (.cells #[.int .i64 ver, .slice (some ad) l.length c] 36)).alloc (.cells #[.int .i64 0, .int .i64 0, .int .i64 0, .bool false, .int .u64 0, .int .u64 0] 47)) = w1 at *
    have s1 := B1.cell 1
    simp at s1
    have f0 := hb0.cell (p := ad.add (k * 6)) (by rw [block_of_add]; exact hbl)
    have f1 := hb0.cell (p := ⟨(ad.add (k * 6)).block, (ad.add (k * 6)).off + 1, none⟩) (by rw [block_of_add]; exact hbl)
    have f2 := hb0.cell (p := ⟨(ad.add (k * 6)).block, (ad.add (k * 6)).off + 2, none⟩) (by rw [block_of_add]; exact hbl)
    have f3 := hb0.cell (p := ⟨(ad.add (k * 6)).block, (ad.add (k * 6)).off + 3, none⟩) (by rw [block_of_add]; exact hbl)
    have f4 := hb0.cell (p := ⟨(ad.add (k * 6)).block, (ad.add (k * 6)).off + 4, none⟩) (by rw [block_of_add]; exact hbl)
    have f5 := hb0.cell (p := ⟨(ad.add (k * 6)).block, (ad.add (k * 6)).off + 5, none⟩) (by rw [block_of_add]; exact hbl)
    rw [c0] at f0
    rw [c1] at f1
    rw [c2] at f2
    rw [c3] at f3
    rw [c4] at f4
    rw [c5] at f5
    have hz2 := B2.lt
    have g0 := B2.frozen
    have t0 := B2.cell
    clear c0 c1 c2 c3 c4 c5 B1
    have K6 := Lib.hid (elem6_facts s1 f0 f1 f2 f3 f4 f5)
    replace B2 := Lib.hid B2
    clear g0 t0
    go_region_with (go_at_call 117; with_reducible refine (SC.out _).mono ?_; rintro e w4 ⟨rfl, hb4⟩; have hT := blk6_facts B2.out (hdrew _) hb4; have hE := K6.out _ _ (hdrew _) hb4; clear s1 f0 f1 f2 f3 f4 f5; obtain ⟨⟨t0, t1, t2, t3, t4, t5⟩, g0, g1, g2, g3, g4, g5⟩ := hT; obtain ⟨s1, f0, f1, f2, f3, f4, f5⟩ := hE)
    all_goals
      go_wp2_with fail
      refine bodyPost_ret (v := .tuple #[.agg #[.int .i64 bi, .int .i64 bw, .int .i64 bs, .bool bv, .int .u64 bh, .int .u64 bo], .bool true]) (by simp [results, Try.results137, go_sem, t0, t1, t2, t3, t4, t5]) rfl ?_
      exact ⟨rfl, set6 (below_chain hb4 (below_drw hb0)) (by simp)⟩
end Go.Proofs.Ytkpkjpdhlmjchaa

namespace Go.Proofs.Ytkpkjpdhlmjchaa
open Go Go.RowKit Go.Deep

set_option maxRecDepth 100000 in
set_option maxHeartbeats 2000000 in
theorem ref_draw (l : List Bk) (A : Option Addr) (c : Nat) (x : Nat) (w : World) (hx : x < 18446744073709551616) (hr : Reads w w.heap.size 6 A l.length (l.flatMap Bk.cells)) (hl : l.length ≤ 1000000) :
    Calls Try.prog 153 #[.slice A l.length c, .int .u64 x] w fun e w' => e = .returned (.tuple #[(drawB l x).val, .bool (drawOk l)]) ∧ Below w.heap.size w w' := by
  by_cases h0 : l.length = 0
  · have e0 : ((l.length : Int) == 0) = true := by rw [h0]; rfl
    obtain rfl : l = [] := List.eq_nil_of_length_eq_zero h0
    go_enter Try.func153, Try.ntmps153
    go_wp2_with fail
    refine bodyPost_ret (v := .tuple #[.agg #[.int .i64 0, .int .i64 0, .int .i64 0, .bool false, .int .u64 0, .int .u64 0], .bool false]) (by simp [results, Try.results153, go_sem, *]) rfl ?_
    exact ⟨rfl, (by repeat (first | exact Below.refl _ _ | assumption | refine below_alloc ?_ _ | refine below_chain (by assumption) ?_ | refine below_call2 (by assumption) ?_ (by first | omega | (simp; done) | (simp; omega) | (simp [World.setCell]; omega)) | refine below_drewN ?_ _ | refine Below.drew ?_ | refine Below.alloc ?_ (by first | omega | (simp; done) | (simp; omega) | (simp [World.setCell]; omega)) _ | refine Below.setCell ?_ (by first | omega | (simp; done) | (simp; omega) | (simp [World.setCell]; omega)) _))⟩
  · have e0 : ((l.length : Int) == 0) = false := by rw [beq_eq_false_iff_ne]; omega
    obtain ⟨k, hk, hkl⟩ := scale_nat x l.length hx (by omega) (by omega)
    have SC := fun W => refscale_any x l.length W hx
    rw [hk] at SC
    obtain ⟨ad, b, rfl, hbl, hb, c0, c1, c2, c3, c4, c5⟩ := bk_at hr hkl
    have hkli : (k : Int) < (l.length : Int) := by omega
    have hfin : drawB l x = b := by unfold drawB; rw [if_neg h0, hk, Int.toNat_natCast, List.getD_eq_getElem?_getD, hb]; rfl
    have hok : drawOk l = true := by unfold drawOk; simp [h0]
    rw [hfin, hok]
    obtain ⟨bi, bw, bs, bv, bh, bo⟩ := b
    unfold Bk.val
    dsimp only at *
    replace SC := Lib.hid SC
    have hne : (ad.add (k * 6)).block < w.heap.size := by rw [block_of_add]; exact hbl
    clear hk hb hfin hok h0
    go_enter Try.func153, Try.ntmps153
    go_wp2_with (go_at_call 120; with_reducible refine (SC.out _).mono ?_; rintro e w4 ⟨rfl, rfl⟩)
    refine bodyPost_ret (v := .tuple #[.agg #[.int .i64 bi, .int .i64 bw, .int .i64 bs, .bool bv, .int .u64 bh, .int .u64 bo], .bool true]) (by simp [results, Try.results153, go_sem, *]) rfl ?_
    exact ⟨rfl, (by repeat (first | exact Below.refl _ _ | assumption | refine below_alloc ?_ _ | refine below_chain (by assumption) ?_ | refine below_call2 (by assumption) ?_ (by first | omega | (simp; done) | (simp; omega) | (simp [World.setCell]; omega)) | refine below_drewN ?_ _ | refine Below.drew ?_ | refine Below.alloc ?_ (by first | omega | (simp; done) | (simp; omega) | (simp [World.setCell]; omega)) _ | refine Below.setCell ?_ (by first | omega | (simp; done) | (simp; omega) | (simp [World.setCell]; omega)) _))⟩

theorem still_of {P : Program} {f : FuncId} {args : Array Value} {w : World} {v : Value} (h : Calls P f args w fun e w' => e = .returned v ∧ w = w') : Calls P f args w fun e w'' => e = .returned v ∧ w'' = w := h.mono fun _ _ ⟨h1, h2⟩ => ⟨h1, h2.symm⟩
def betterB (M : LM) (a b : Bk) : Bk := if lessB (lmGet M b.id) b.w b.id (lmGet M a.id) a.w a.id then b else a
def bkWf (b : Bk) : Prop := (Lit.int .i64 b.id).wf = true
set_option maxRecDepth 100000 in
set_option maxHeartbeats 2000000 in
theorem better1_any (x y : Bk) (g b gc : Nat) (M : LM) (w : World) (hc : w.cell? ⟨gc, 0, none⟩ = some (.pointer (some ⟨g, 0, none⟩))) (h : LoadAt w g b M) (hx : bkWf x) (hy : bkWf y) :
    Calls Try.prog 159 #[x.val, y.val, .pointer (some ⟨gc, 0, none⟩)] w fun e w' => e = .returned (betterB M x y).val ∧ Below w.heap.size w w' := by
  obtain ⟨xi, xw, xs, xv, xh, xo⟩ := x
  obtain ⟨yi, yw, ys, yv, yh, yo⟩ := y
  unfold betterB bkWf at *
  unfold Bk.val
  dsimp only at *
  have L := fun W => less_any (lmGet M yi) yw yi (lmGet M xi) xw xi W
  obtain ⟨o, ho⟩ : ∃ o, lessB (lmGet M yi) yw yi (lmGet M xi) xw xi = o := ⟨_, rfl⟩
  rw [ho] at L ⊢
  obtain ⟨w0, hw0⟩ : ∃ w0, w0 = ((w.alloc (.cells #[.int .i64 xi, .int .i64 xw, .int .i64 xs, .bool xv, .int .u64 xh, .int .u64 xo] 47)).alloc (.cells #[.int .i64 yi, .int .i64 yw, .int .i64 ys, .bool yv, .int .u64 yh, .int .u64 yo] 47)).alloc (.cells #[.int .i64 0, .int .i64 0, .int .i64 0, .bool false, .int .u64 0, .int .u64 0] 47) := ⟨_, rfl⟩
  have hb0 : Below w.heap.size w w0 := hw0 ▸ (by repeat (first | exact Below.refl _ _ | assumption | refine below_alloc ?_ _ | refine below_chain (by assumption) ?_ | refine below_call2 (by assumption) ?_ (by first | omega | (simp; done) | (simp; omega) | (simp [World.setCell]; omega)) | refine below_drewN ?_ _ | refine Below.drew ?_ | refine Below.alloc ?_ (by first | omega | (simp; done) | (simp; omega) | (simp [World.setCell]; omega)) _ | refine Below.setCell ?_ (by first | omega | (simp; done) | (simp; omega) | (simp [World.setCell]; omega)) _))
  have B1 : Blk w0 w.heap.size 47 #[.int .i64 xi, .int .i64 xw, .int .i64 xs, .bool xv, .int .u64 xh, .int .u64 xo] := hw0 ▸ ((Blk.new w _ _).alloc _).alloc _
  have B2 : Blk w0 (w.heap.size + 1) 47 #[.int .i64 yi, .int .i64 yw, .int .i64 ys, .bool yv, .int .u64 yh, .int .u64 yo] := hw0 ▸ by simpa using (Blk.new (w.alloc (.cells #[.int .i64 xi, .int .i64 xw, .int .i64 xs, .bool xv, .int .u64 xh, .int .u64 xo] 47)) 47 #[.int .i64 yi, .int .i64 yw, .int .i64 ys, .bool yv, .int .u64 yh, .int .u64 yo]).alloc (.cells #[.int .i64 0, .int .i64 0, .int .i64 0, .bool false, .int .u64 0, .int .u64 0] 47)
  have B3 : Blk w0 (w.heap.size + 1 + 1) 47 #[.int .i64 0, .int .i64 0, .int .i64 0, .bool false, .int .u64 0, .int .u64 0] := hw0 ▸ by simpa using Blk.new ((w.alloc (.cells #[.int .i64 xi, .int .i64 xw, .int .i64 xs, .bool xv, .int .u64 xh, .int .u64 xo] 47)).alloc (.cells #[.int .i64 yi, .int .i64 yw, .int .i64 ys, .bool yv, .int .u64 yh, .int .u64 yo] 47)) 47 #[.int .i64 0, .int .i64 0, .int .i64 0, .bool false, .int .u64 0, .int .u64 0]
  have h0 := h.call hb0
  have hc0 := (hb0.cell (p := ⟨gc, 0, none⟩) (block_lt_of_cell hc)).trans hc
  have G1 := fun (W : World) (hW : W.heap = w0.heap) => load_get g b M xi W (by unfold LoadAt Blk Imap World.ownsMap at h0 ⊢; rw [hW]; exact h0) hx
  have G2 := fun (W : World) (hW : W.heap = w0.heap) => load_get g b M yi W (by unfold LoadAt Blk Imap World.ownsMap at h0 ⊢; rw [hW]; exact h0) hy
  generalize lmGet M xi = gx at *
  generalize lmGet M yi = gy at *
  replace G1 := Lib.hid G1
  replace G2 := Lib.hid G2
  replace L := Lib.hid L
  replace ho := Lib.hid ho
  clear h hc h0
  go_enter Try.func159, Try.ntmps159
  go_wp2_with fail
  rw [← hw0]
  have d0 := B1.cell 0
  have d1 := B1.cell 1
  have e0 := B2.cell 0
  have e1 := B2.cell 1
  simp at d0 d1 e0 e1
  clear hw0
  refine wp_region_still_tail 16 (by kernel_rfl) (by kernel_rfl) ?_
  simp only [List.take_succ_cons, List.take_zero, List.drop_succ_cons, List.drop_zero]
  repeat still_step
  still_call (still_of (G2.out _ (hdrew _)))
  repeat still_step
  still_call (still_of (G1.out _ (hdrew _)))
  repeat still_step
  refine wpStill_nil ?_
  change wpList _ _ _ _ _ w0.drew
  have C1 : Blk w0.drew w.heap.size 47 #[.int .i64 xi, .int .i64 xw, .int .i64 xs, .bool xv, .int .u64 xh, .int .u64 xo] := B1
  have C2 : Blk w0.drew (w.heap.size + 1) 47 #[.int .i64 yi, .int .i64 yw, .int .i64 ys, .bool yv, .int .u64 yh, .int .u64 yo] := B2
  have C3 : Blk w0.drew (w.heap.size + 1 + 1) 47 #[.int .i64 0, .int .i64 0, .int .i64 0, .bool false, .int .u64 0, .int .u64 0] := B3
  have hbd : Below w.heap.size w w0.drew := hb0.drew
  clear B1 B2 B3 G1 G2 d0 d1 e0 e1 hc0 hb0
  generalize w0.drew = w1 at *
  cases o
  · go_wp2_with (go_at_call 34; with_reducible refine (L.out _).mono ?_; rintro e w2 ⟨rfl, hb2⟩; have D1 := C1.call hb2; have D3 := C3.call hb2; have d0 := D1.cell 0; have d1 := D1.cell 1; have d2 := D1.cell 2; have d3 := D1.cell 3; have d4 := D1.cell 4; have d5 := D1.cell 5; have f0 := D3.cell 0; have f1 := D3.cell 1; have f2 := D3.cell 2; have f3 := D3.cell 3; have f4 := D3.cell 4; have f5 := D3.cell 5; simp at d0 d1 d2 d3 d4 d5 f0 f1 f2 f3 f4 f5; have q0 := D3.frozen 0; have q1 := D3.frozen 1; have q2 := D3.frozen 2; have q3 := D3.frozen 3; have q4 := D3.frozen 4; have q5 := D3.frozen 5)
    refine bodyPost_ret (v := .agg #[.int .i64 xi, .int .i64 xw, .int .i64 xs, .bool xv, .int .u64 xh, .int .u64 xo]) (by simp [results, Try.results159, go_sem, f0, f1, f2, f3, f4, f5]) rfl ?_
    exact ⟨rfl, set6 (below_chain hb2 hbd) (by omega)⟩
  · go_wp2_with (go_at_call 34; with_reducible refine (L.out _).mono ?_; rintro e w2 ⟨rfl, hb2⟩; have D1 := C2.call hb2; have D3 := C3.call hb2; have d0 := D1.cell 0; have d1 := D1.cell 1; have d2 := D1.cell 2; have d3 := D1.cell 3; have d4 := D1.cell 4; have d5 := D1.cell 5; have f0 := D3.cell 0; have f1 := D3.cell 1; have f2 := D3.cell 2; have f3 := D3.cell 3; have f4 := D3.cell 4; have f5 := D3.cell 5; simp at d0 d1 d2 d3 d4 d5 f0 f1 f2 f3 f4 f5; have q0 := D3.frozen 0; have q1 := D3.frozen 1; have q2 := D3.frozen 2; have q3 := D3.frozen 3; have q4 := D3.frozen 4; have q5 := D3.frozen 5)
    refine bodyPost_ret (v := .agg #[.int .i64 yi, .int .i64 yw, .int .i64 ys, .bool yv, .int .u64 yh, .int .u64 yo]) (by simp [results, Try.results159, go_sem, f0, f1, f2, f3, f4, f5]) rfl ?_
    exact ⟨rfl, set6 (below_chain hb2 hbd) (by omega)⟩
end Go.Proofs.Ytkpkjpdhlmjchaa

namespace Go.Proofs.Ytkpkjpdhlmjchaa
open Go Go.RowKit Go.Deep

theorem better_any (g : Nat) (w : World) : Calls Try.prog 139 #[.pointer (some ⟨g, 0, none⟩)] w fun e w' => e = .returned (.func (Fn.func 159) #[] #[.pointer (some ⟨w.heap.size, 0, none⟩)]) ∧ w' = w.alloc (.cells #[.pointer (some ⟨g, 0, none⟩)] 53) := by
  go_enter Try.func139, Try.ntmps139
  go_wp2_with fail
  go_ret
  exact ⟨rfl, rfl⟩
def foldB (M : LM) (l : List Bk) : Bk := match l with | [] => bk0 | x :: r => r.foldl (betterB M) x
theorem foldB_one (M : LM) (x : Bk) : foldB M [x] = x := rfl
theorem foldB_snoc (M : LM) (l : List Bk) (y : Bk) (h : l ≠ []) : foldB M (l ++ [y]) = betterB M (foldB M l) y := by
  cases l with
  | nil => exact absurd rfl h
  | cons x r => simp [foldB, List.foldl_append]

theorem blk_set6 {w : World} {g : Nat} {t : TypeId} {c0 c1 c2 c3 c4 c5 a0 a1 a2 a3 a4 a5 : Value} (h : Blk w g t #[c0, c1, c2, c3, c4, c5]) :
    Blk ((((((w.setCell ⟨g, 0, none⟩ a0).setCell ⟨g, 1, none⟩ a1).setCell ⟨g, 2, none⟩ a2).setCell ⟨g, 3, none⟩ a3).setCell ⟨g, 4, none⟩ a4).setCell ⟨g, 5, none⟩ a5) g t #[a0, a1, a2, a3, a4, a5] := by
  simpa using (((((h.set_ 0 a0).set_ 1 a1).set_ 2 a2).set_ 3 a3).set_ 4 a4).set_ 5 a5
theorem blk_far6 {w : World} {g g' : Nat} {t : TypeId} {cs : Array Value} {a0 a1 a2 a3 a4 a5 : Value} (h : Blk w g' t cs) (hne : g' ≠ g) :
    Blk ((((((w.setCell ⟨g, 0, none⟩ a0).setCell ⟨g, 1, none⟩ a1).setCell ⟨g, 2, none⟩ a2).setCell ⟨g, 3, none⟩ a3).setCell ⟨g, 4, none⟩ a4).setCell ⟨g, 5, none⟩ a5) g' t cs :=
  (((((h.far (p := ⟨g, 0, none⟩) hne a0).far (p := ⟨g, 1, none⟩) hne a1).far (p := ⟨g, 2, none⟩) hne a2).far (p := ⟨g, 3, none⟩) hne a3).far (p := ⟨g, 4, none⟩) hne a4).far (p := ⟨g, 5, none⟩) hne a5
theorem Blk.six {w : World} {g : Nat} {t : TypeId} {c0 c1 c2 c3 c4 c5 : Value} (h : Blk w g t #[c0, c1, c2, c3, c4, c5]) :
    (w.cell? ⟨g, 0, none⟩ = some c0 ∧ w.cell? ⟨g, 1, none⟩ = some c1 ∧ w.cell? ⟨g, 2, none⟩ = some c2 ∧ w.cell? ⟨g, 3, none⟩ = some c3 ∧ w.cell? ⟨g, 4, none⟩ = some c4 ∧ w.cell? ⟨g, 5, none⟩ = some c5) ∧
      w.frozen? ⟨g, 0, none⟩ = false ∧ w.frozen? ⟨g, 1, none⟩ = false ∧ w.frozen? ⟨g, 2, none⟩ = false ∧ w.frozen? ⟨g, 3, none⟩ = false ∧ w.frozen? ⟨g, 4, none⟩ = false ∧ w.frozen? ⟨g, 5, none⟩ = false :=
  ⟨⟨h.cell 0, h.cell 1, h.cell 2, h.cell 3, h.cell 4, h.cell 5⟩, h.frozen 0, h.frozen 1, h.frozen 2, h.frozen 3, h.frozen 4, h.frozen 5⟩
abbrev Bk.arr (b : Bk) : Array Value := #[.int .i64 b.id, .int .i64 b.w, .int .i64 b.st, .bool b.v, .int .u64 b.hi, .int .u64 b.lo]
theorem foldB_take (M : LM) (l : List Bk) (k : Nat) (x : Bk) (h : l[k]? = some x) : foldB M (l.take (k + 1)) = if k = 0 then x else betterB M (foldB M (l.take k)) x := by
  obtain ⟨hk, rfl⟩ := List.getElem?_eq_some_iff.1 h
  rw [List.take_succ_eq_append_getElem hk]
  by_cases h0 : k = 0
  · subst h0; simp [foldB]
  · rw [if_neg h0, foldB_snoc]
    intro e
    have := congrArg List.length e
    rw [List.length_take, List.length_nil] at this
    omega
theorem betterB_wf {M : LM} {a b : Bk} (ha : bkWf a) (hb : bkWf b) : bkWf (betterB M a b) := by
  unfold betterB; split <;> assumption
theorem foldB_wf {M : LM} {l : List Bk} (h : ∀ x ∈ l, bkWf x) : bkWf (foldB M l) := by
  cases l with
  | nil => show bkWf bk0; unfold bkWf; decide
  | cons x r =>
    have key : ∀ (r : List Bk) (x : Bk), bkWf x → (∀ y ∈ r, bkWf y) → bkWf (r.foldl (betterB M) x) := by
      intro r
      induction r with
      | nil => intro x hx _; exact hx
      | cons y r ih => intro x hx hr; exact ih _ (betterB_wf hx (hr y (by simp))) fun z hz => hr z (by simp [hz])
    exact key r x (h x (by simp)) fun y hy => h y (by simp [hy])

set_option maxRecDepth 100000 in
set_option maxHeartbeats 4000000 in
theorem fold_any (l : List Bk) (A : Option Addr) (c gc g b : Nat) (M : LM) (w : World) (hr : Reads w w.heap.size 6 A l.length (l.flatMap Bk.cells)) (hl : l.length ≤ 1000000) (hc : w.cell? ⟨gc, 0, none⟩ = some (.pointer (some ⟨g, 0, none⟩))) (h : LoadAt w g b M) (hwf : ∀ x ∈ l, bkWf x) :
    Calls Try.prog 138 #[.slice A l.length c, .func (Fn.func 159) #[] #[.pointer (some ⟨gc, 0, none⟩)]] w fun e w' => e = .returned (.tuple #[(foldB M l).val, .bool (decide (0 < l.length))]) ∧ Below w.heap.size w w' := by
  go_enter Try.func138, Try.ntmps138
  go_wp2_with fail
  go_loopw [11] (fun i wr => ∃ k : Nat, k ≤ l.length ∧ i = .int .i64 (k : Nat) ∧ Blk wr w.heap.size 47 #[.int .i64 0, .int .i64 0, .int .i64 0, .bool false, .int .u64 0, .int .u64 0] ∧ Blk wr (w.heap.size + 1) 47 (foldB M (l.take k)).arr ∧ Below w.heap.size w wr) (fun i _ => l.length - (intOf i).toNat)
  case atStart => exact ⟨0, by omega, rfl, (Blk.new w _ _).alloc _, by have hn := Blk.new (w.alloc (.cells #[.int .i64 0, .int .i64 0, .int .i64 0, .bool false, .int .u64 0, .int .u64 0] 47)) 47 #[.int .i64 0, .int .i64 0, .int .i64 0, .bool false, .int .u64 0, .int .u64 0]; simp only [World.size_alloc] at hn; exact hn, ((Below.refl _ _).alloc (Nat.le_refl _) _).alloc (by simp) _⟩
  case round =>
    obtain ⟨k, hk, rfl, hB0, hB1, hb⟩ := hrel
    by_cases hlt : k < l.length
    · have hlti : (k : Int) < (l.length : Int) := by omega
      obtain ⟨ad, x, rfl, hbl, hx, c0, c1, c2, c3, c4, c5⟩ := bk_at (hr.below hb) hlt
      have hstep := foldB_take M l k x hx
      have hxw := hwf x (List.mem_of_getElem? hx)
      have hfw := foldB_wf (M := M) (l := l.take k) fun y hy => hwf y (List.mem_of_mem_take hy)
      have hBt := better1_any (foldB M (l.take k)) x g b gc M
      have hLr := h.call hb
      have hcr := (hb.cell (p := ⟨gc, 0, none⟩) (block_lt_of_cell hc)).trans hc
      generalize foldB M (l.take k) = y at *
      obtain ⟨xi, xw, xs, xv, xh, xo⟩ := x
      obtain ⟨yi, yw, ys, yv, yh, yo⟩ := y
      have hz1 := hB1.lt
      have hz0 := hB0.lt
      obtain ⟨⟨d0, d1, d2, d3, d4, d5⟩, q0, q1, q2, q3, q4, q5⟩ := hB1.six
      unfold Bk.arr Bk.val at *
      dsimp only at *
      by_cases h0 : k = 0
      · rw [if_pos h0] at hstep
        have h0b : ((k : Int) == 0) = true := by rw [h0]; rfl
        replace hstep := Lib.hid hstep
        replace h0 := Lib.hid h0
        clear hBt hLr hcr hfw hxw hx h hc hwf
        go_wp2_with fail
        go_roundw
        case rel => exact ⟨k + 1, by omega, by go_num, (blk_far6 hB0 (by omega)).alloc _, by rw [hstep.out]; exact (blk_set6 hB1).alloc _, below_alloc (set6 hb (by omega)) _⟩
        case measure => simp [intOf]; omega
      · rw [if_neg h0] at hstep
        have h0b : ((k : Int) == 0) = false := by rw [beq_eq_false_iff_ne]; omega
        replace hstep := Lib.hid hstep
        replace h0 := Lib.hid h0
        have BT := Lib.hid fun (W : World) (hW : Below wr.heap.size wr W) => hBt W ((hW.cell (p := ⟨gc, 0, none⟩) (block_lt_of_cell hcr)).trans hcr) (hLr.call hW) hfw hxw
        clear hBt hLr hcr hfw hxw hx h hc hwf
        obtain ⟨z, hz⟩ : ∃ z, betterB M ⟨yi, yw, ys, yv, yh, yo⟩ ⟨xi, xw, xs, xv, xh, xo⟩ = z := ⟨_, rfl⟩
        rw [hz] at BT
        have hst2 := hstep.out
        rw [hz] at hst2
        clear hstep hz
        obtain ⟨zi, zw, zs, zv, zh, zo⟩ := z
        replace hst2 := Lib.hid hst2
        dsimp only at BT
        go_wp2_with fail
        refine (BT.out _ (by repeat (first | exact Below.refl _ _ | assumption | refine below_alloc ?_ _ | refine below_chain (by assumption) ?_ | refine below_call2 (by assumption) ?_ (by first | omega | (simp; done) | (simp; omega) | (simp [World.setCell]; omega)) | refine below_drewN ?_ _ | refine Below.drew ?_ | refine Below.alloc ?_ (by first | omega | (simp; done) | (simp; omega) | (simp [World.setCell]; omega)) _ | refine Below.setCell ?_ (by first | omega | (simp; done) | (simp; omega) | (simp [World.setCell]; omega)) _))).mono ?_
        rintro e w2 ⟨rfl, hb2⟩
        have hC1 := (hB1.alloc (.cells #[.int .i64 xi, .int .i64 xw, .int .i64 xs, .bool xv, .int .u64 xh, .int .u64 xo] 47)).call hb2
        have hC0 := (hB0.alloc (.cells #[.int .i64 xi, .int .i64 xw, .int .i64 xs, .bool xv, .int .u64 xh, .int .u64 xo] 47)).call hb2
        have hbB := below_chain hb2 (below_alloc hb _)
        clear BT d0 d1 d2 d3 d4 d5 q0 q1 q2 q3 q4 q5 hB0 hB1 hb hb2 c0 c1 c2 c3 c4 c5
        obtain ⟨⟨d0, d1, d2, d3, d4, d5⟩, q0, q1, q2, q3, q4, q5⟩ := hC1.six
        go_wp2_with fail
        go_roundw
        case rel => exact ⟨k + 1, by omega, by go_num, blk_far6 hC0 (by omega), by rw [hst2.out]; exact blk_set6 hC1, set6 hbB (by omega)⟩
        case measure => simp [intOf]; omega
    · obtain rfl : k = l.length := by omega
      have hlti : ¬ (l.length : Int) < (l.length : Int) := by omega
      rw [List.take_length] at hB1
      obtain ⟨y, hy⟩ : ∃ y, foldB M l = y := ⟨_, rfl⟩
      rw [hy] at hB1
      obtain ⟨yi, yw, ys, yv, yh, yo⟩ := y
      replace hy := Lib.hid hy
      unfold Bk.arr at hB1
      dsimp only at hB1
      obtain ⟨⟨d0, d1, d2, d3, d4, d5⟩, -⟩ := hB1.six
      obtain ⟨⟨e0, e1, e2, e3, e4, e5⟩, q0, q1, q2, q3, q4, q5⟩ := hB0.six
      obtain ⟨o, ho⟩ : ∃ o, decide (0 < l.length) = o := ⟨_, rfl⟩
      replace ho := Lib.hid ho
      clear h hc hwf hr
      go_wp2_with fail
      refine bodyPost_ret (v := .tuple #[.agg #[.int .i64 yi, .int .i64 yw, .int .i64 ys, .bool yv, .int .u64 yh, .int .u64 yo], .bool o]) (by simp [results, Try.results138, go_sem, e0, e1, e2, e3, e4, e5, ho.out]) rfl ?_
      exact ⟨by rw [hy.out, ho.out], set6 hb (by omega)⟩
end Go.Proofs.Ytkpkjpdhlmjchaa

namespace Go.Proofs.Ytkpkjpdhlmjchaa
open Go Go.RowKit Go.Deep

theorem info_bk : (Try.prog.info? 47).map (fun i => (i.zero, i.size, i.bytes)) = some (some (.agg #[.int .i64 0, .int .i64 0, .int .i64 0, .bool false, .int .u64 0, .int .u64 0]), 6, 48) := by kernel_rfl
abbrev OwnB (w : World) (base : Nat) (A : Option Addr) (c : Nat) (l : List Bk) : Prop := OwnA Bk.cells 6 47 w base A c l
theorem wpList_push_bk {W : World} {cs : Array Value} {ops : Array Oper} {rest : List Oper} {o : Oper} {a : Act} {Q : Exit → Act → World → Prop} (hgd : o.guard = none) (s x : Operand)
    (ho : o.op = .call { callee := .builtin .append, args := #[s, x], argTypes := #[22, 22] })
    (base : Nat) (A : Option Addr) (c : Nat) (l : List Bk) (v : Bk) (n : Nat) (hn : l.length = n) (hs : a.eval s = .slice A n c) (hown : OwnB W base A c l) (g : Nat) (hg : g = W.heap.size) (hcs : v.cells.toArray = cs)
    (hx : a.eval x = .slice (some ⟨g, 0, none⟩) 1 1) (hl : l.length ≤ 1000000) (hbase : base ≤ W.heap.size)
    (h : ∀ A' c' w', OwnB w' base A' c' (l ++ [v]) → Pushed W w' A A' → wpList Try.prog ops Q rest (a.put o.dst (.slice A' (n + 1) c')) w') : wpList Try.prog ops Q (o :: rest) a (W.alloc (.cells cs 47)) := by
  obtain ⟨i0, hi0, hz0, hz1, hz2⟩ := info_parts info_bk
  exact wpList_push Bk.cells 6 (fun _ => rfl) (fun b u hu => by
    simp at hu; rcases hu with rfl | rfl | rfl | rfl | rfl | rfl <;> rfl) (by omega) 22 i0 _ 48 Try.underlying22 hi0 hz0 hz1 hz2 rfl (by omega) hgd s x ho base A c l v n hn hs hown g hg hcs hx hl hbase h

def drawnL (l : List Bk) (ds : List Int) : List Bk := if l.length = 0 then [] else ds.map fun d => drawB l d.toNat
theorem drawnL_len (l : List Bk) (ds : List Int) : (drawnL l ds).length ≤ ds.length := by unfold drawnL; split <;> simp
theorem drawB_mem {l : List Bk} {x : Nat} (hx : x < 18446744073709551616) (h : l.length ≠ 0) (hl : l.length ≤ 1000000) : drawB l x ∈ l := by
  obtain ⟨k, hk, hkl⟩ := scale_nat x l.length hx (by omega) (by omega)
  unfold drawB
  rw [if_neg h, hk, Int.toNat_natCast, List.getD_eq_getElem?_getD, List.getElem?_eq_getElem hkl]
  exact List.getElem_mem hkl
theorem drawnL_succ (l : List Bk) (ds : List Int) (k : Nat) (hk : k < ds.length) : drawnL l (ds.take (k + 1)) = if l.length = 0 then [] else drawnL l (ds.take k) ++ [drawB l (ds.getD k 0).toNat] := by
  unfold drawnL
  rw [List.take_succ_eq_append_getElem hk, List.getD_eq_getElem?_getD, List.getElem?_eq_getElem hk]
  split
  · rfl
  · rw [List.map_append]; rfl
theorem Reads.intk_at {w : World} {B : Nat} {A : Option Addr} {xs : List Int} {k : IntKind} {i : Nat} (h : Reads w B 1 A xs.length (xs.map (.int k))) (hi : i < xs.length) : ∃ ad, A = some ad ∧ ad.block < B ∧ w.cell? (ad.add i) = some (.int k (xs.getD i 0)) := h.int_at hi

set_option maxRecDepth 100000 in
set_option maxHeartbeats 4000000 in
theorem two_best (ver : Int) (l : List Bk) (A : Option Addr) (c : Nat) (g b : Nat) (M : LM) (D : Option Addr) (d : Nat) (ds : List Int) (w : World) (hr : Reads w w.heap.size 6 A l.length (l.flatMap Bk.cells)) (hl : l.length ≤ 1000000) (hd : Reads w w.heap.size 1 D ds.length (ds.map (.int .u64))) (hdl : ds.length ≤ 1000)
    (hds : ∀ x ∈ ds, 0 ≤ x ∧ x < 18446744073709551616) (h : LoadAt w g b M) (hwf : ∀ x ∈ l, bkWf x) :
    Calls Try.prog 116 #[.agg #[.int .i64 ver, .slice A l.length c], .pointer (some ⟨g, 0, none⟩), .slice D ds.length d] w fun e w' => e = .returned (.tuple #[.int .i64 (foldB M (drawnL l ds)).id, .bool (decide (0 < (drawnL l ds).length))]) ∧ Below w.heap.size w w' := by
  have DR := fun x W hx hr => two_draw ver l A c x W hx hr hl
  have B0 : Blk (w.alloc (.cells #[.int .i64 ver, .slice A l.length c] 36)) w.heap.size 36 #[.int .i64 ver, .slice A l.length c] := Blk.new w _ _
  replace DR := Lib.hid DR
  go_enter Try.func116, Try.ntmps116
  go_wp2_with fail
  go_loopw [8, 17] (fun s i wr => ∃ (k : Nat) (P : Option Addr) (p : Nat), k ≤ ds.length ∧ i = .int .i64 (k : Nat) ∧ s = .slice P (drawnL l (ds.take k)).length p ∧ OwnB wr w.heap.size P p (drawnL l (ds.take k)) ∧ Blk wr w.heap.size 36 #[.int .i64 ver, .slice A l.length c] ∧ ¬ InB P w.heap.size ∧ Below w.heap.size w wr) (fun _ i _ => ds.length - (intOf i).toNat)
  case atStart => exact ⟨0, none, 0, by omega, rfl, by simp [drawnL], (by
    have : drawnL l (ds.take 0) = [] := by simp [drawnL]
    rw [this]; exact OwnA.nil _ _), B0, (fun h => by obtain ⟨a, ha, _⟩ := h; cases ha), (by repeat (first | exact Below.refl _ _ | assumption | refine below_alloc ?_ _ | refine below_chain (by assumption) ?_ | refine below_call2 (by assumption) ?_ (by first | omega | (simp; done) | (simp; omega) | (simp [World.setCell]; omega)) | refine below_drewN ?_ _ | refine Below.drew ?_ | refine Below.alloc ?_ (by first | omega | (simp; done) | (simp; omega) | (simp [World.setCell]; omega)) _ | refine Below.setCell ?_ (by first | omega | (simp; done) | (simp; omega) | (simp [World.setCell]; omega)) _))⟩
  case round =>
    obtain ⟨k, P, p, hk, rfl, rfl, hO, hB, hnP, hb⟩ := hrel
    by_cases hlt : k < ds.length
    · have hlti : (k : Int) < (ds.length : Int) := by omega
      obtain ⟨ad, rfl, hbl, hc0⟩ := hd.intk_at hlt
      have hstep := drawnL_succ l ds k hlt
      obtain ⟨x, hx⟩ : ∃ x, ds.getD k 0 = x := ⟨_, rfl⟩
      have hxr := hds x (by rw [← hx, List.getD_eq_getElem?_getD, List.getElem?_eq_getElem hlt]; exact List.getElem_mem hlt)
      rw [hx] at hc0 hstep
      obtain ⟨x, rfl⟩ := Int.eq_ofNat_of_zero_le hxr.1
      rw [Int.toNat_natCast] at hstep
      have hc := (hb.cell (by rw [block_of_add]; exact hbl)).trans hc0
      have s0 := hB.cell 0
      have s1 := hB.cell 1
      simp at s0 s1
      have hrr : Reads wr wr.heap.size 6 A l.length (l.flatMap Bk.cells) := (hr.below hb).more hb.size
      have hol : (drawnL l (ds.take k)).length ≤ 1000 := by
        have := drawnL_len l (ds.take k)
        have : (ds.take k).length ≤ k := List.length_take_le _ _
        omega
      have DX := DR.out x wr (by omega) hrr
      have hzB := hb.size
      by_cases h0 : l.length = 0
      · rw [if_pos h0] at hstep
        have e1 : drawnL l (ds.take k) = [] := by unfold drawnL; rw [if_pos h0]
        have hdo : drawOk l = false := by simp [drawOk, h0]
        rw [hdo] at DX
        generalize drawB l x = y at *
        obtain ⟨yi, yw, ys, yv, yh, yo⟩ := y
        rw [e1]
        rw [e1] at hO
        unfold Bk.val at DX
        dsimp only at DX
        replace DX := Lib.hid DX
        replace hstep := Lib.hid hstep
        replace hx := Lib.hid hx
        replace e1 := Lib.hid e1
        replace h0 := Lib.hid h0
        clear hdo hol
        go_wp2_with (first
          | (go_at_call 137; with_reducible refine DX.out.mono ?_; rintro e w1 ⟨rfl, hb1⟩; have hO1 := hO.call hb1; have hB1 := hB.call hb1; have hb2 := below_chain hb1 hb; have hz2 := hb2.size))
        go_roundw
        case rel => exact ⟨k + 1, P, p, by omega, by go_num, by rw [hstep.out]; rfl, by rw [hstep.out]; exact hO1.alloc _, hB1.alloc _, hnP, below_alloc hb2 _⟩
        case measure => simp [intOf]; omega
      · rw [if_neg h0] at hstep
        have hdo : drawOk l = true := by simp [drawOk, h0]
        rw [hdo] at DX
        generalize drawB l x = y at *
        obtain ⟨yi, yw, ys, yv, yh, yo⟩ := y
        generalize drawnL l (ds.take k) = L at *
        unfold Bk.val at DX
        dsimp only at DX
        replace DX := Lib.hid DX
        replace hstep := Lib.hid hstep
        replace hx := Lib.hid hx
        clear hdo
        go_wp2_with (first
          | (go_at_call 137; with_reducible refine DX.out.mono ?_; rintro e w1 ⟨rfl, hb1⟩; have hO1 := hO.call hb1; have hB1 := hB.call hb1; have hb2 := below_chain hb1 hb; have hz2 := hb2.size)
          | (at_builtin; (refine wpList_push_bk rfl (.tmp 28) (.tmp 30) rfl w.heap.size P p L ⟨yi, yw, ys, yv, yh, yo⟩ L.length rfl rfl (hO1.alloc _) _ (by simp) rfl rfl (by omega) (by simp; omega) ?_; intro P1 p1 w2 ho1 hp1; have hB2 := (hB1.alloc (.cells #[.int .i64 yi, .int .i64 yw, .int .i64 ys, .bool yv, .int .u64 yh, .int .u64 yo] 47)).chg hp1.chg hnP; have hb3 := hp1.below (below_alloc hb2 _) (by simp; omega) (fun b hb => (hO1.block hb).1); have hnP2 : ¬ InB P1 w.heap.size := (fun hi => by rcases hp1.new _ hi with hi | hi; exact hnP hi; simp at hi; omega))))
        go_roundw
        case rel => exact ⟨k + 1, P1, p1, by omega, by go_num, by rw [hstep.out]; simp, by rw [hstep.out]; exact ho1, hB2, hnP2, hb3⟩
        case measure => simp [intOf]; omega
    · obtain rfl : k = ds.length := by omega
      have hlti : ¬ (ds.length : Int) < (ds.length : Int) := by omega
      rw [List.take_length] at hO ⊢
      have hlen := drawnL_len l ds
      have hdw : ∀ x ∈ drawnL l ds, bkWf x := by
        intro x hx
        unfold drawnL at hx
        split at hx
        · simp at hx
        · rename_i h0
          obtain ⟨y, hy, rfl⟩ := List.mem_map.1 hx
          have := hds y hy
          exact hwf _ (drawB_mem (by omega) h0 hl)
      have hLr := h.call hb
      have FO := fun A c gc W hr hl hc h => fold_any (drawnL l ds) A c gc g b M W hr hl hc h hdw
      have BE := better_any g
      obtain ⟨L, hL⟩ : ∃ L, drawnL l ds = L := ⟨_, rfl⟩
      rw [hL] at FO hO hlen ⊢
      obtain ⟨y, hy⟩ : ∃ y, foldB M L = y := ⟨_, rfl⟩
      rw [hy] at FO
      obtain ⟨o, ho⟩ : ∃ o, decide (0 < L.length) = o := ⟨_, rfl⟩
      rw [ho] at FO
      obtain ⟨yi, yw, ys, yv, yh, yo⟩ := y
      unfold Bk.val at FO
      dsimp only at FO
      replace FO := Lib.hid FO
      replace BE := Lib.hid BE
      replace hL := Lib.hid hL
      replace hy := Lib.hid hy
      replace ho := Lib.hid ho
      clear hdw hr hd hds h hwf
      go_wp2_with (go_at_call 139; with_reducible refine (BE.out _).mono ?_; rintro e w1 ⟨rfl, rfl⟩)
      have hc1 : (wr.alloc (.cells #[.pointer (some ⟨g, 0, none⟩)] 53)).cell? ⟨wr.heap.size, 0, none⟩ = some (.pointer (some ⟨g, 0, none⟩)) := (Blk.new wr 53 #[.pointer (some ⟨g, 0, none⟩)]).cell 0
      refine (FO.out _ _ _ _ (hO.alloc _).reads (by omega) hc1 (hLr.call (below_alloc (Below.refl _ _) _))).mono ?_
      rintro e w2 ⟨rfl, hb2⟩
      go_wp2_with fail
      go_ret2
      refine ⟨?_, (by repeat (first | exact Below.refl _ _ | assumption | refine below_alloc ?_ _ | refine below_chain (by assumption) ?_ | refine below_call2 (by assumption) ?_ (by first | omega | (simp; done) | (simp; omega) | (simp [World.setCell]; omega)) | refine below_drewN ?_ _ | refine Below.drew ?_ | refine Below.alloc ?_ (by first | omega | (simp; done) | (simp; omega) | (simp [World.setCell]; omega)) _ | refine Below.setCell ?_ (by first | omega | (simp; done) | (simp; omega) | (simp [World.setCell]; omega)) _))⟩
      rw [hL.out, hy.out, ho.out]
      rfl
end Go.Proofs.Ytkpkjpdhlmjchaa

namespace Go.Proofs.Ytkpkjpdhlmjchaa
open Go Go.RowKit Go.Deep

set_option maxHeartbeats 1000000 in
theorem two_pick (ver : Int) (l : List Bk) (A : Option Addr) (c : Nat) (g b : Nat) (M : LM) (x y : Nat) (w : World) (hr : Reads w w.heap.size 6 A l.length (l.flatMap Bk.cells)) (hl : l.length ≤ 1000000) (hx : x < 18446744073709551616) (hy : y < 18446744073709551616)
    (h : LoadAt w g b M) (hwf : ∀ x ∈ l, bkWf x) :
    Calls Try.prog 90 #[.agg #[.int .i64 ver, .slice A l.length c], .pointer (some ⟨g, 0, none⟩), .int .u64 x, .int .u64 y] w fun e w' => e = .returned (.tuple #[.int .i64 (foldB M (drawnL l [(x : Int), (y : Int)])).id, .bool (decide (0 < (drawnL l [(x : Int), (y : Int)]).length))]) ∧ Below w.heap.size w w' := by
  have B := fun D W hr hd h => two_best ver l A c g b M D 2 [(x : Int), (y : Int)] W hr hl hd (by simp) (by intro z hz; simp at hz; omega) h hwf
  obtain ⟨i, hi⟩ : ∃ i, (foldB M (drawnL l [(x : Int), (y : Int)])).id = i := ⟨_, rfl⟩
  obtain ⟨o, ho⟩ : ∃ i, decide (0 < (drawnL l [(x : Int), (y : Int)]).length) = i := ⟨_, rfl⟩
  rw [hi, ho] at B ⊢
  replace B := Lib.hid B
  clear hi ho
  have hb1 : Below w.heap.size w (w.alloc (.cells #[.int .i64 ver, .slice A l.length c] 36)) := (by repeat (first | exact Below.refl _ _ | assumption | refine below_alloc ?_ _ | refine below_chain (by assumption) ?_ | refine below_call2 (by assumption) ?_ (by first | omega | (simp; done) | (simp; omega) | (simp [World.setCell]; omega)) | refine below_drewN ?_ _ | refine Below.drew ?_ | refine Below.alloc ?_ (by first | omega | (simp; done) | (simp; omega) | (simp [World.setCell]; omega)) _ | refine Below.setCell ?_ (by first | omega | (simp; done) | (simp; omega) | (simp [World.setCell]; omega)) _))
  have hb2 : Below w.heap.size w ((w.alloc (.cells #[.int .i64 ver, .slice A l.length c] 36)).alloc (.cells #[.int .u64 x, .int .u64 y] 23)) := (by repeat (first | exact Below.refl _ _ | assumption | refine below_alloc ?_ _ | refine below_chain (by assumption) ?_ | refine below_call2 (by assumption) ?_ (by first | omega | (simp; done) | (simp; omega) | (simp [World.setCell]; omega)) | refine below_drewN ?_ _ | refine Below.drew ?_ | refine Below.alloc ?_ (by first | omega | (simp; done) | (simp; omega) | (simp [World.setCell]; omega)) _ | refine Below.setCell ?_ (by first | omega | (simp; done) | (simp; omega) | (simp [World.setCell]; omega)) _))
  have hrd := reads_lit (w.alloc (.cells #[.int .i64 ver, .slice A l.length c] 36)) ((w.alloc (.cells #[.int .i64 ver, .slice A l.length c] 36)).alloc (.cells #[.int .u64 x, .int .u64 y] 23)).heap.size 23 [.int .u64 x, .int .u64 y] (by simp)
  have hrd' : Reads ((w.alloc (.cells #[.int .i64 ver, .slice A l.length c] 36)).alloc (.cells #[.int .u64 x, .int .u64 y] 23)) ((w.alloc (.cells #[.int .i64 ver, .slice A l.length c] 36)).alloc (.cells #[.int .u64 x, .int .u64 y] 23)).heap.size 1 (some ⟨w.heap.size + 1, 0, none⟩) [(x : Int), (y : Int)].length ([(x : Int), (y : Int)].map (.int .u64)) := by simpa using hrd
  go_enter Try.func90, Try.ntmps90
  go_wp2_with fail
  refine (B.out _ _ ((hr.below hb2).more hb2.size) hrd' (h.call hb2)).mono ?_
  rintro e w1 ⟨rfl, hb3⟩
  go_wp2_with fail
  go_ret2
  exact ⟨rfl, (by repeat (first | exact Below.refl _ _ | assumption | refine below_alloc ?_ _ | refine below_chain (by assumption) ?_ | refine below_call2 (by assumption) ?_ (by first | omega | (simp; done) | (simp; omega) | (simp [World.setCell]; omega)) | refine below_drewN ?_ _ | refine Below.drew ?_ | refine Below.alloc ?_ (by first | omega | (simp; done) | (simp; omega) | (simp [World.setCell]; omega)) _ | refine Below.setCell ?_ (by first | omega | (simp; done) | (simp; omega) | (simp [World.setCell]; omega)) _))⟩

set_option maxRecDepth 100000 in
set_option maxHeartbeats 4000000 in
theorem ref27_pick (l : List Bk) (A : Option Addr) (c g : Nat) (M : LM) (w : World) (hr : Reads w w.heap.size 6 A l.length (l.flatMap Bk.cells)) (hl : l.length ≤ 1000000) (h : RLoadAt w g M) (hM : M.length ≤ 1000000) :
    Calls Try.prog 23 #[.slice A l.length c, .pointer (some ⟨g, 0, none⟩)] w fun e w' => e = .returned (.tuple #[.int .i64 (foldB M l).id, .bool (decide (0 < l.length))]) ∧ ∃ n, w' = w.drewN n := by
  go_enter Try.func23, Try.ntmps23
  go_wp2_with fail
  go_loopw [6, 7] (fun t i wr => ∃ (k : Nat) (j : Int) (n : Nat), k ≤ l.length ∧ i = .int .i64 (k : Nat) ∧ t = .int .i64 j ∧ wr = w.drewN n ∧ ((k = 0 ∧ j = -1) ∨ ∃ q : Nat, j = (q : Int) ∧ q < k ∧ l[q]? = some (foldB M (l.take k)))) (fun _ i _ => l.length - (intOf i).toNat)
  case atStart => exact ⟨0, -1, 0, by omega, rfl, rfl, rfl, .inl ⟨rfl, rfl⟩⟩
  case round =>
    obtain ⟨k, j, n, hk, rfl, rfl, rfl, hJ⟩ := hrel
    by_cases hlt : k < l.length
    · have hlti : (k : Int) < (l.length : Int) := by omega
      have hrv : Reads (w.drewN n) (w.drewN n).heap.size 6 A l.length (l.flatMap Bk.cells) := hr
      have hv : RLoadAt (w.drewN n) g M := h
      obtain ⟨W, hW⟩ : ∃ W, w.drewN n = W := ⟨_, rfl⟩
      rw [hW] at hrv hv ⊢
      replace hW := Lib.hid hW
      obtain ⟨ad, x, rfl, hbl, hx, c0, c1, -⟩ := bk_at hrv hlt
      have hstep := foldB_take M l k x hx
      rcases hJ with ⟨rfl, rfl⟩ | ⟨q, rfl, hq, hqx⟩
      · rw [if_pos rfl] at hstep
        replace hstep := Lib.hid hstep
        replace hx := Lib.hid hx
        clear c0 c1 hr h hrv hv
        go_wp2_with fail
        go_quiet (fail)
        go_wp2_with fail
        go_roundw
        case rel => exact ⟨1, 0, _, by omega, rfl, rfl, by rw [← hW.out]; exact World.drewN_drewN _ _ _, .inr ⟨0, rfl, by omega, by rw [hstep.out]; exact hx.out⟩⟩
        case measure => simp [intOf]; omega
      · rw [if_neg (by omega)] at hstep
        obtain ⟨ad', y, had, hbl2, hy, d0, d1, -⟩ := bk_at hrv (k := q) (by omega)
        cases had
        rw [hqx] at hy
        have hfy : foldB M (l.take k) = y := by simpa using hy
        rw [hfy] at hstep hqx
        have G1 := fun n => Lib.hid (refload_get g M x.id (W.drewN n) hv hM)
        have G2 := fun n => Lib.hid (refload_get g M y.id (W.drewN n) hv hM)
        have L := fun W => refless_any (lmGet M x.id) x.w x.id (lmGet M y.id) y.w y.id W
        unfold betterB at hstep
        obtain ⟨o, ho⟩ : ∃ o, lessB (lmGet M x.id) x.w x.id (lmGet M y.id) y.w y.id = o := ⟨_, rfl⟩
        rw [ho] at hstep L
        replace G1 := Lib.hid G1
        replace G2 := Lib.hid G2
        replace L := Lib.hid L
        replace ho := Lib.hid ho
        have hqi : (q : Int) < (l.length : Int) := by omega
        have hq0 : decide ((q : Int) < 0) = false := by simp
        clear hy hfy hr h hrv hv
        cases o
        · rw [if_neg (by simp)] at hstep
          replace hstep := Lib.hid hstep
          replace hx := Lib.hid hx
          replace hqx := Lib.hid hqx
          go_wp2_with fail
          go_quiet ((first | (go_at_call 56; with_reducible exact Calls.quiet_of_same (still_of (G1.out _).out)) | (go_at_call 56; with_reducible exact Calls.quiet_of_same (still_of (G2.out _).out)) | (go_at_call 59; with_reducible exact Calls.quiet_of_same (still_of (L.out _)))))
          go_wp2_with fail
          go_roundw
          case rel => exact ⟨k + 1, q, _, by omega, by go_num, rfl, by rw [← hW.out]; exact World.drewN_drewN _ _ _, .inr ⟨q, rfl, by omega, by rw [hstep.out]; exact hqx.out⟩⟩
          case measure => simp [intOf]; omega
        · rw [if_pos rfl] at hstep
          replace hstep := Lib.hid hstep
          replace hx := Lib.hid hx
          replace hqx := Lib.hid hqx
          go_wp2_with fail
          go_quiet ((first | (go_at_call 56; with_reducible exact Calls.quiet_of_same (still_of (G1.out _).out)) | (go_at_call 56; with_reducible exact Calls.quiet_of_same (still_of (G2.out _).out)) | (go_at_call 59; with_reducible exact Calls.quiet_of_same (still_of (L.out _)))))
          go_wp2_with fail
          go_roundw
          case rel => exact ⟨k + 1, k, _, by omega, by go_num, rfl, by rw [← hW.out]; exact World.drewN_drewN _ _ _, .inr ⟨k, rfl, by omega, by rw [hstep.out]; exact hx.out⟩⟩
          case measure => simp [intOf]; omega
    · obtain rfl : k = l.length := by omega
      have hlti : ¬ (l.length : Int) < (l.length : Int) := by omega
      rw [List.take_length] at hJ
      rcases hJ with ⟨h0, rfl⟩ | ⟨q, rfl, hq, hqx⟩
      · obtain rfl : l = [] := List.eq_nil_of_length_eq_zero h0
        go_wp2_with fail
        go_ret2
        exact ⟨rfl, _, rfl⟩
      · obtain ⟨ad, y, rfl, hbl2, hy, d0, -⟩ := bk_at hr hq
        rw [hqx] at hy
        have hfy : foldB M l = y := by simpa using hy
        have hlo : decide (0 < l.length) = true := by simp; omega
        have hqi : (q : Int) < (l.length : Int) := by omega
        have hq0 : decide ((q : Int) < 0) = false := by simp
        replace hfy := Lib.hid hfy
        replace hlo := Lib.hid hlo
        clear hqx hy hr h
        go_wp2_with fail
        go_ret2
        exact ⟨by rw [hfy.out, hlo.out]; rfl, _, rfl⟩
end Go.Proofs.Ytkpkjpdhlmjchaa

namespace Go.Proofs.Ytkpkjpdhlmjchaa
open Go Go.RowKit Go.Deep

set_option maxRecDepth 100000 in
set_option maxHeartbeats 4000000 in
theorem ref_best (l : List Bk) (A : Option Addr) (c : Nat) (g : Nat) (M : LM) (D : Option Addr) (d : Nat) (ds : List Int) (w : World) (hr : Reads w w.heap.size 6 A l.length (l.flatMap Bk.cells)) (hl : l.length ≤ 1000000) (hd : Reads w w.heap.size 1 D ds.length (ds.map (.int .u64))) (hdl : ds.length ≤ 1000)
    (hds : ∀ x ∈ ds, 0 ≤ x ∧ x < 18446744073709551616) (h : RLoadAt w g M) (hM : M.length ≤ 1000000) :
    Calls Try.prog 123 #[.slice A l.length c, .pointer (some ⟨g, 0, none⟩), .slice D ds.length d] w fun e w' => e = .returned (.tuple #[.int .i64 (foldB M (drawnL l ds)).id, .bool (decide (0 < (drawnL l ds).length))]) ∧ Below w.heap.size w w' := by
  have DR := fun x W hx hr => ref_draw l A c x W hx hr hl
  replace DR := Lib.hid DR
  go_enter Try.func123, Try.ntmps123
  go_wp2_with fail
  go_loopw [8, 9] (fun s i wr => ∃ (k : Nat) (P : Option Addr) (p : Nat), k ≤ ds.length ∧ i = .int .i64 (k : Nat) ∧ s = .slice P (drawnL l (ds.take k)).length p ∧ OwnB wr w.heap.size P p (drawnL l (ds.take k)) ∧ Below w.heap.size w wr) (fun _ i _ => ds.length - (intOf i).toNat)
  case atStart => exact ⟨0, none, 0, by omega, rfl, by simp [drawnL], (by
    have : drawnL l (ds.take 0) = [] := by simp [drawnL]
    rw [this]; exact OwnA.nil _ _), Below.refl _ _⟩
  case round =>
    obtain ⟨k, P, p, hk, rfl, rfl, hO, hb⟩ := hrel
    by_cases hlt : k < ds.length
    · have hlti : (k : Int) < (ds.length : Int) := by omega
      obtain ⟨ad, rfl, hbl, hc0⟩ := hd.intk_at hlt
      have hstep := drawnL_succ l ds k hlt
      obtain ⟨x, hx⟩ : ∃ x, ds.getD k 0 = x := ⟨_, rfl⟩
      have hxr := hds x (by rw [← hx, List.getD_eq_getElem?_getD, List.getElem?_eq_getElem hlt]; exact List.getElem_mem hlt)
      rw [hx] at hc0 hstep
      obtain ⟨x, rfl⟩ := Int.eq_ofNat_of_zero_le hxr.1
      rw [Int.toNat_natCast] at hstep
      have hc := (hb.cell (by rw [block_of_add]; exact hbl)).trans hc0
      have hrr : Reads wr wr.heap.size 6 A l.length (l.flatMap Bk.cells) := (hr.below hb).more hb.size
      have hol : (drawnL l (ds.take k)).length ≤ 1000 := by
        have := drawnL_len l (ds.take k)
        have : (ds.take k).length ≤ k := List.length_take_le _ _
        omega
      have DX := DR.out x wr (by omega) hrr
      have hzB := hb.size
      by_cases h0 : l.length = 0
      · rw [if_pos h0] at hstep
        have e1 : drawnL l (ds.take k) = [] := by unfold drawnL; rw [if_pos h0]
        have hdo : drawOk l = false := by simp [drawOk, h0]
        rw [hdo] at DX
        generalize drawB l x = y at *
        obtain ⟨yi, yw, ys, yv, yh, yo⟩ := y
        rw [e1]
        rw [e1] at hO
        unfold Bk.val at DX
        dsimp only at DX
        replace DX := Lib.hid DX
        replace hstep := Lib.hid hstep
        replace hx := Lib.hid hx
        replace e1 := Lib.hid e1
        replace h0 := Lib.hid h0
        clear hdo hol
        go_wp2_with (first
          | (go_at_call 153; with_reducible refine DX.out.mono ?_; rintro e w1 ⟨rfl, hb1⟩; have hO1 := hO.call hb1; have hb2 := below_chain hb1 hb; have hz2 := hb2.size))
        go_roundw
        case rel => exact ⟨k + 1, P, p, by omega, by go_num, by rw [hstep.out]; rfl, by rw [hstep.out]; exact hO1.alloc _, below_alloc hb2 _⟩
        case measure => simp [intOf]; omega
      · rw [if_neg h0] at hstep
        have hdo : drawOk l = true := by simp [drawOk, h0]
        rw [hdo] at DX
        generalize drawB l x = y at *
        obtain ⟨yi, yw, ys, yv, yh, yo⟩ := y
        generalize drawnL l (ds.take k) = L at *
        unfold Bk.val at DX
        dsimp only at DX
        replace DX := Lib.hid DX
        replace hstep := Lib.hid hstep
        replace hx := Lib.hid hx
        clear hdo
        go_wp2_with (first
          | (go_at_call 153; with_reducible refine DX.out.mono ?_; rintro e w1 ⟨rfl, hb1⟩; have hO1 := hO.call hb1; have hb2 := below_chain hb1 hb; have hz2 := hb2.size)
          | (at_builtin; (refine wpList_push_bk rfl (.tmp 28) (.tmp 30) rfl w.heap.size P p L ⟨yi, yw, ys, yv, yh, yo⟩ L.length rfl rfl (hO1.alloc _) _ (by simp) rfl rfl (by omega) (by simp; omega) ?_; intro P1 p1 w2 ho1 hp1; have hb3 := hp1.below (below_alloc hb2 _) (by simp; omega) (fun b hb => (hO1.block hb).1))))
        go_roundw
        case rel => exact ⟨k + 1, P1, p1, by omega, by go_num, by rw [hstep.out]; simp, by rw [hstep.out]; exact ho1, hb3⟩
        case measure => simp [intOf]; omega
    · obtain rfl : k = ds.length := by omega
      have hlti : ¬ (ds.length : Int) < (ds.length : Int) := by omega
      rw [List.take_length] at hO ⊢
      have hlen := drawnL_len l ds
      have hLr := h.call hb
      have PK := fun A c W hr hl h => ref27_pick (drawnL l ds) A c g M W hr hl h hM
      obtain ⟨L, hL⟩ : ∃ L, drawnL l ds = L := ⟨_, rfl⟩
      rw [hL] at PK hO hlen ⊢
      obtain ⟨y, hy⟩ : ∃ y, (foldB M L).id = y := ⟨_, rfl⟩
      rw [hy] at PK
      obtain ⟨o, ho⟩ : ∃ o, decide (0 < L.length) = o := ⟨_, rfl⟩
      rw [ho] at PK
      replace PK := Lib.hid PK
      replace hL := Lib.hid hL
      replace hy := Lib.hid hy
      replace ho := Lib.hid ho
      clear hr hd hds h
      go_wp2_with fail
      refine (PK.out _ _ _ hO.reads (by omega) hLr).mono ?_
      rintro e w2 ⟨rfl, n2, rfl⟩
      go_wp2_with fail
      go_ret2
      refine ⟨?_, (by repeat (first | exact Below.refl _ _ | assumption | refine below_alloc ?_ _ | refine below_chain (by assumption) ?_ | refine below_call2 (by assumption) ?_ (by first | omega | (simp; done) | (simp; omega) | (simp [World.setCell]; omega)) | refine below_drewN ?_ _ | refine Below.drew ?_ | refine Below.alloc ?_ (by first | omega | (simp; done) | (simp; omega) | (simp [World.setCell]; omega)) _ | refine Below.setCell ?_ (by first | omega | (simp; done) | (simp; omega) | (simp [World.setCell]; omega)) _))⟩
      rw [hL.out, hy.out, ho.out]
      rfl

set_option maxHeartbeats 1000000 in
theorem ref_pick (l : List Bk) (A : Option Addr) (c : Nat) (g : Nat) (M : LM) (x y : Nat) (w : World) (hr : Reads w w.heap.size 6 A l.length (l.flatMap Bk.cells)) (hl : l.length ≤ 1000000) (hx : x < 18446744073709551616) (hy : y < 18446744073709551616)
    (h : RLoadAt w g M) (hM : M.length ≤ 1000000) :
    Calls Try.prog 94 #[.slice A l.length c, .pointer (some ⟨g, 0, none⟩), .int .u64 x, .int .u64 y] w fun e w' => e = .returned (.tuple #[.int .i64 (foldB M (drawnL l [(x : Int), (y : Int)])).id, .bool (decide (0 < (drawnL l [(x : Int), (y : Int)]).length))]) ∧ Below w.heap.size w w' := by
  have B := fun D W hr hd h => ref_best l A c g M D 2 [(x : Int), (y : Int)] W hr hl hd (by simp) (by intro z hz; simp at hz; omega) h hM
  obtain ⟨i, hi⟩ : ∃ i, (foldB M (drawnL l [(x : Int), (y : Int)])).id = i := ⟨_, rfl⟩
  obtain ⟨o, ho⟩ : ∃ i, decide (0 < (drawnL l [(x : Int), (y : Int)]).length) = i := ⟨_, rfl⟩
  rw [hi, ho] at B ⊢
  replace B := Lib.hid B
  clear hi ho
  have hb2 : Below w.heap.size w (w.alloc (.cells #[.int .u64 x, .int .u64 y] 23)) := (by repeat (first | exact Below.refl _ _ | assumption | refine below_alloc ?_ _ | refine below_chain (by assumption) ?_ | refine below_call2 (by assumption) ?_ (by first | omega | (simp; done) | (simp; omega) | (simp [World.setCell]; omega)) | refine below_drewN ?_ _ | refine Below.drew ?_ | refine Below.alloc ?_ (by first | omega | (simp; done) | (simp; omega) | (simp [World.setCell]; omega)) _ | refine Below.setCell ?_ (by first | omega | (simp; done) | (simp; omega) | (simp [World.setCell]; omega)) _))
  have hrd : Reads (w.alloc (.cells #[.int .u64 x, .int .u64 y] 23)) (w.alloc (.cells #[.int .u64 x, .int .u64 y] 23)).heap.size 1 (some ⟨w.heap.size, 0, none⟩) [(x : Int), (y : Int)].length ([(x : Int), (y : Int)].map (.int .u64)) := reads_lit w _ 23 [.int .u64 x, .int .u64 y] (by simp)
  go_enter Try.func94, Try.ntmps94
  go_wp2_with fail
  refine (B.out _ _ ((hr.below hb2).more hb2.size) hrd (h.call hb2)).mono ?_
  rintro e w1 ⟨rfl, hb3⟩
  go_wp2_with fail
  go_ret2
  exact ⟨rfl, (by repeat (first | exact Below.refl _ _ | assumption | refine below_alloc ?_ _ | refine below_chain (by assumption) ?_ | refine below_call2 (by assumption) ?_ (by first | omega | (simp; done) | (simp; omega) | (simp [World.setCell]; omega)) | refine below_drewN ?_ _ | refine Below.drew ?_ | refine Below.alloc ?_ (by first | omega | (simp; done) | (simp; omega) | (simp [World.setCell]; omega)) _ | refine Below.setCell ?_ (by first | omega | (simp; done) | (simp; omega) | (simp [World.setCell]; omega)) _))⟩
end Go.Proofs.Ytkpkjpdhlmjchaa
