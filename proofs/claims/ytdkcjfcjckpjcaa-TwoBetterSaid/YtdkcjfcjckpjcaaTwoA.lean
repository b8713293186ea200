/- backends; two and its reference: Draw. -/
import Derived.Test.YtdkcjfcjckpjcaaLoadE
import Derived.Test.YtdkcjfcjckpjcaaNumD
import Derived.Deep.RegionHeld3
namespace Go.Proofs.Ytdkcjfcjckpjcaa
open Go Go.RowKit Go.Deep

theorem hdrew (w : World) : w.drew.heap = w.heap := rfl
theorem blk6_facts {w1 W w4 : World} {g : Nat} {t : TypeId} {c0 c1 c2 c3 c4 c5 : Value} (h : Blk w1 g t #[c0, c1, c2, c3, c4, c5]) (hW : W.heap = w1.heap) (hb : Below W.heap.size W w4) :
    (w4.cell? ⟨g, 0, none⟩ = some c0 ∧ w4.cell? ⟨g, 1, none⟩ = some c1 ∧ w4.cell? ⟨g, 2, none⟩ = some c2 ∧ w4.cell? ⟨g, 3, none⟩ = some c3 ∧ w4.cell? ⟨g, 4, none⟩ = some c4 ∧ w4.cell? ⟨g, 5, none⟩ = some c5) ∧
      w4.frozen? ⟨g, 0, none⟩ = false ∧ w4.frozen? ⟨g, 1, none⟩ = false ∧ w4.frozen? ⟨g, 2, none⟩ = false ∧ w4.frozen? ⟨g, 3, none⟩ = false ∧ w4.frozen? ⟨g, 4, none⟩ = false ∧ w4.frozen? ⟨g, 5, none⟩ = false := by
  have h2 : Blk W g t #[c0, c1, c2, c3, c4, c5] := by unfold Blk at h ⊢; rw [hW]; exact h
  have h3 := h2.call hb
  exact ⟨⟨h3.cell 0, h3.cell 1, h3.cell 2, h3.cell 3, h3.cell 4, h3.cell 5⟩, h3.frozen 0, h3.frozen 1, h3.frozen 2, h3.frozen 3, h3.frozen 4, h3.frozen 5⟩
theorem elem6_facts {w1 : World} {s v0 v1 v2 v3 v4 v5 : Value} {x a0 a1 a2 a3 a4 a5 : Addr} (hs : w1.cell? x = some s)
    (h0 : w1.cell? a0 = some v0) (h1 : w1.cell? a1 = some v1) (h2 : w1.cell? a2 = some v2) (h3 : w1.cell? a3 = some v3) (h4 : w1.cell? a4 = some v4) (h5 : w1.cell? a5 = some v5) (W w4 : World) (hW : W.heap = w1.heap) (hb : Below W.heap.size W w4) :
    w4.cell? x = some s ∧ w4.cell? a0 = some v0 ∧ w4.cell? a1 = some v1 ∧ w4.cell? a2 = some v2 ∧ w4.cell? a3 = some v3 ∧ w4.cell? a4 = some v4 ∧ w4.cell? a5 = some v5 := by
  have key : ∀ {a : Addr} {v : Value}, w1.cell? a = some v → w4.cell? a = some v := fun {a v} h => by
    have hl := block_lt_of_cell h
    rw [World.cell?_of_block (w := w1) (w' := w4) (a := a) (by rw [hb.block a.block (by rw [hW]; exact hl), hW])]
    exact h
  exact ⟨key hs, key h0, key h1, key h2, key h3, key h4, key h5⟩theorem below_drw {w w1 : World} {B : Nat} (h : Below B w w1) : Below B w w1.drew := h.drew
theorem set6 {w w1 : World} {B g : Nat} {a0 a1 a2 a3 a4 a5 : Value} (h : Below B w w1) (hg : B ≤ g) :
    Below B w ((((((w1.setCell ⟨g, 0, none⟩ a0).setCell ⟨g, 1, none⟩ a1).setCell ⟨g, 2, none⟩ a2).setCell ⟨g, 3, none⟩ a3).setCell ⟨g, 4, none⟩ a4).setCell ⟨g, 5, none⟩ a5) :=
  (((((h.setCell (p := ⟨g, 0, none⟩) hg _).setCell (p := ⟨g, 1, none⟩) hg _).setCell (p := ⟨g, 2, none⟩) hg _).setCell (p := ⟨g, 3, none⟩) hg _).setCell (p := ⟨g, 4, none⟩) hg _).setCell (p := ⟨g, 5, none⟩) hg _
structure Bk where
  id : Int
  w : Int
  st : Int
  v : Bool
  hi : Int
  lo : Int
abbrev Bk.cells (b : Bk) : List Value := [.int .i64 b.id, .int .i64 b.w, .int .i64 b.st, .bool b.v, .int .u64 b.hi, .int .u64 b.lo]
abbrev Bk.val (b : Bk) : Value := .agg #[.int .i64 b.id, .int .i64 b.w, .int .i64 b.st, .bool b.v, .int .u64 b.hi, .int .u64 b.lo]
def bk0 : Bk := ⟨0, 0, 0, false, 0, 0⟩
theorem bk_at {w : World} {B : Nat} {A : Option Addr} {l : List Bk} (h : Reads w B 6 A l.length (l.flatMap Bk.cells)) {k : Nat} (hk : k < l.length) :
    ∃ ad b, A = some ad ∧ ad.block < B ∧ l[k]? = some b ∧ w.cell? (ad.add (k * 6)) = some (.int .i64 b.id) ∧ w.cell? ⟨(ad.add (k * 6)).block, (ad.add (k * 6)).off + 1, none⟩ = some (.int .i64 b.w) ∧
      w.cell? ⟨(ad.add (k * 6)).block, (ad.add (k * 6)).off + 2, none⟩ = some (.int .i64 b.st) ∧ w.cell? ⟨(ad.add (k * 6)).block, (ad.add (k * 6)).off + 3, none⟩ = some (.bool b.v) ∧
      w.cell? ⟨(ad.add (k * 6)).block, (ad.add (k * 6)).off + 4, none⟩ = some (.int .u64 b.hi) ∧ w.cell? ⟨(ad.add (k * 6)).block, (ad.add (k * 6)).off + 5, none⟩ = some (.int .u64 b.lo) := by
  obtain ⟨ad, rfl, hb, hc⟩ := h.rec_at Bk.cells (fun _ => rfl) hk
  exact ⟨ad, l[k], rfl, hb, List.getElem?_eq_getElem hk, hc 0 _ rfl, hc 1 _ rfl, hc 2 _ rfl, hc 3 _ rfl, hc 4 _ rfl, hc 5 _ rfl⟩

def drawB (l : List Bk) (x : Nat) : Bk := if l.length = 0 then bk0 else l.getD (scaleI x l.length).toNat bk0
def drawOk (l : List Bk) : Bool := decide (l.length ≠ 0)
theorem scale_nat (x n : Nat) (hx : x < 18446744073709551616) (h1 : 1 ≤ n) (h2 : n ≤ 2147483648) : ∃ k : Nat, scaleI x n = (k : Int) ∧ k < n := by
  refine ⟨(x * n / 18446744073709551616 : Nat), ?_, scale_lt x n hx h1⟩
  unfold scaleI
  rw [if_neg (by omega)]
  simp

set_option maxRecDepth 100000 in
set_option maxHeartbeats 2000000 in
theorem two_draw (ver : Int) (l : List Bk) (A : Option Addr) (c : Nat) (x : Nat) (w : World) (hx : x < 18446744073709551616) (hr : Reads w w.heap.size 6 A l.length (l.flatMap Bk.cells)) (hl : l.length ≤ 1000000) :
    Calls Try.prog 81 #[.agg #[.int .i64 ver, .slice A l.length c], .int .u64 x] w fun e w' => e = .returned (.tuple #[(drawB l x).val, .bool (drawOk l)]) ∧ Below w.heap.size w w' := by
  by_cases h0 : l.length = 0
  · have e0 : ((l.length : Int) == 0) = true := by rw [h0]; rfl
    obtain rfl : l = [] := List.eq_nil_of_length_eq_zero h0
    go_enter Try.func81, Try.ntmps81
    go_wp2_with fail
    refine bodyPost_ret (v := .tuple #[.agg #[.int .i64 0, .int .i64 0, .int .i64 0, .bool false, .int .u64 0, .int .u64 0], .bool false]) (by simp [results, Try.results81, go_sem, *]) rfl ?_
    exact ⟨rfl, (by repeat (first | exact Below.refl _ _ | assumption | refine below_alloc ?_ _ | refine below_chain (by assumption) ?_ | refine below_call2 (by assumption) ?_ (by first | omega | (simp; done) | (simp; omega) | (simp [World.setCell]; omega)) | refine below_drewN ?_ _ | refine Below.drew ?_ | refine Below.alloc ?_ (by first | omega | (simp; done) | (simp; omega) | (simp [World.setCell]; omega)) _ | refine Below.setCell ?_ (by first | omega | (simp; done) | (simp; omega) | (simp [World.setCell]; omega)) _))⟩
  · have e0 : ((l.length : Int) == 0) = false := by rw [beq_eq_false_iff_ne]; omega
    obtain ⟨k, hk, hkl⟩ := scale_nat x l.length hx (by omega) (by omega)
    have SC := fun W => scale_any x l.length W hx
    rw [hk] at SC
    obtain ⟨ad, b, rfl, hbl, hb, c0, c1, c2, c3, c4, c5⟩ := bk_at hr hkl
    have hkli : (k : Int) < (l.length : Int) := by omega
    have hfin : drawB l x = b := by unfold drawB; rw [if_neg h0, hk, Int.toNat_natCast, List.getD_eq_getElem?_getD, hb]; rfl
    have hok : drawOk l = true := by unfold drawOk; simp [h0]
    rw [hfin, hok]
    obtain ⟨bi, bw, bs, bv, bh, bo⟩ := b
    unfold Bk.val
    dsimp only at *
    replace SC := Lib.hid SC
    clear hk hb hfin hok h0
    have B1 : Blk ((w.alloc (.cells #[.int .i64 ver, .slice (some ad) l.length c] 102)).alloc (.cells #[.int .i64 0, .int .i64 0, .int .i64 0, .bool false, .int .u64 0, .int .u64 0] 106)) w.heap.size 102 #[.int .i64 ver, .slice (some ad) l.length c] := (Blk.new w _ _).alloc _
    have hb0 : Below w.heap.size w ((w.alloc (.cells #[.int .i64 ver, .slice (some ad) l.length c] 102)).alloc (.cells #[.int .i64 0, .int .i64 0, .int .i64 0, .bool false, .int .u64 0, .int .u64 0] 106)) := (by repeat (first | exact Below.refl _ _ | assumption | refine below_alloc ?_ _ | refine below_chain (by assumption) ?_ | refine below_call2 (by assumption) ?_ (by first | omega | (simp; done) | (simp; omega) | (simp [World.setCell]; omega)) | refine below_drewN ?_ _ | refine Below.drew ?_ | refine Below.alloc ?_ (by first | omega | (simp; done) | (simp; omega) | (simp [World.setCell]; omega)) _ | refine Below.setCell ?_ (by first | omega | (simp; done) | (simp; omega) | (simp [World.setCell]; omega)) _))
    have B2 := Blk.new (w.alloc (.cells #[.int .i64 ver, .slice (some ad) l.length c] 102)) 106 #[.int .i64 0, .int .i64 0, .int .i64 0, .bool false, .int .u64 0, .int .u64 0]
    simp only [World.size_alloc] at B2
    go_enter Try.func81, Try.ntmps81
    go_wp2_with fail
    generalize ((w.alloc (.cells #[.int .i64 ver, .slice (some ad) l.length c] 102)).alloc (.cells #[.int .i64 0, .int .i64 0, .int .i64 0, .bool false, .int .u64 0, .int .u64 0] 106)) = w1 at *
    have s1 := B1.cell 1
    simp at s1
    have f0 := hb0.cell (p := ad.add (k * 6)) (by rw [block_of_add]; exact hbl)
    have f1 := hb0.cell (p := ⟨(ad.add (k * 6)).block, (ad.add (k * 6)).off + 1, none⟩) (by rw [block_of_add]; exact hbl)
    have f2 := hb0.cell (p := ⟨(ad.add (k * 6)).block, (ad.add (k * 6)).off + 2, none⟩) (by rw [block_of_add]; exact hbl)
    have f3 := hb0.cell (p := ⟨(ad.add (k * 6)).block, (ad.add (k * 6)).off + 3, none⟩) (by rw [block_of_add]; exact hbl)
    have f4 := hb0.cell (p := ⟨(ad.add (k * 6)).block, (ad.add (k * 6)).off + 4, none⟩) (by rw [block_of_add]; exact hbl)
    have f5 := hb0.cell (p := ⟨(ad.add (k * 6)).block, (ad.add (k * 6)).off + 5, none⟩) (by rw [block_of_add]; exact hbl)
    rw [c0] at f0
    rw [c1] at f1
    rw [c2] at f2
    rw [c3] at f3
    rw [c4] at f4
    rw [c5] at f5
    have hz2 := B2.lt
    have g0 := B2.frozen
    have t0 := B2.cell
    clear c0 c1 c2 c3 c4 c5 B1
    have K6 := Lib.hid (elem6_facts s1 f0 f1 f2 f3 f4 f5)
    replace B2 := Lib.hid B2
    clear g0 t0
    go_region_with (go_at_call 65; with_reducible refine (SC.out _).mono ?_; rintro e w4 ⟨rfl, hb4⟩; have hT := blk6_facts B2.out (hdrew _) hb4; have hE := K6.out _ _ (hdrew _) hb4; clear s1 f0 f1 f2 f3 f4 f5; obtain ⟨⟨t0, t1, t2, t3, t4, t5⟩, g0, g1, g2, g3, g4, g5⟩ := hT; obtain ⟨s1, f0, f1, f2, f3, f4, f5⟩ := hE)
    all_goals
      go_wp2_with fail
      refine bodyPost_ret (v := .tuple #[.agg #[.int .i64 bi, .int .i64 bw, .int .i64 bs, .bool bv, .int .u64 bh, .int .u64 bo], .bool true]) (by simp [results, Try.results81, go_sem, t0, t1, t2, t3, t4, t5]) rfl ?_
      exact ⟨rfl, set6 (below_chain hb4 (below_drw hb0)) (by simp)⟩
end Go.Proofs.Ytdkcjfcjckpjcaa
