/- cloakroomlaw18.ConnTells: its contract. -/
import Derived.Test.YtdkcjfcjckpjcaaConnRefRun
namespace Go.Proofs.Ytdkcjfcjckpjcaa
open Go Go.RowKit Go.Deep

theorem held_on {B : Nat} {w0 W w1 : World} {v0 v1 v2 v3 : Value} (hz : B < w0.heap.size)
    (h : Below (B + 1) w0 W ∧ W.cell? ⟨B, 0, none⟩ = some v0 ∧ W.cell? ⟨B, 1, none⟩ = some v1 ∧ W.cell? ⟨B, 2, none⟩ = some v2 ∧ W.cell? ⟨B, 3, none⟩ = some v3) (hb : Below W.heap.size W w1) :
    Below (B + 1) w0 w1 ∧ w1.cell? ⟨B, 0, none⟩ = some v0 ∧ w1.cell? ⟨B, 1, none⟩ = some v1 ∧ w1.cell? ⟨B, 2, none⟩ = some v2 ∧ w1.cell? ⟨B, 3, none⟩ = some v3 := by
  obtain ⟨hB, h0, h1, h2, h3⟩ := h
  have hs := hB.size
  have hk : ∀ i, w1.cell? ⟨B, i, none⟩ = W.cell? ⟨B, i, none⟩ := fun i => hb.cell (p := ⟨B, i, none⟩) (show B < W.heap.size by omega)
  exact ⟨below_call hB (by omega) hb, by rw [hk, h0], by rw [hk, h1], by rw [hk, h2], by rw [hk, h3]⟩

theorem reads_held {B n : Nat} {w0 W : World} {R : Prop} {A : Option Addr} {xs : List Value} (h : Below (B + 1) w0 W ∧ R) (hz : B < w0.heap.size) (hr : Reads w0 B 1 A n xs) : Reads W W.heap.size 1 A n xs :=
  (hr.below (h.1.mono (by omega))).more (by have := h.1.size; omega)
theorem reads_row_len {w : World} {B g n : Nat} {t : TypeId} {xs : List Int} (h : w.rowIs g t n (fun i => .int .i64 (xs.getD i 0))) (hn : xs.length = n) (hg : g < B) : Reads w B 1 (some ⟨g, 0, none⟩) n (xs.map (.int .i64)) := by
  subst hn
  exact reads_of_row h hg

set_option maxRecDepth 100000 in
set_option maxHeartbeats 2000000 in
theorem connTells_calls (a b d e0 : Int) (st p f : Int) (A : Option Addr) (c : Nat) (l : List Int) (w : World) (hr : Reads w w.heap.size 1 A l.length (l.map (.int .i64))) (hm : l.length ≤ 9223372036854775807) :
    Calls Try.prog 6 #[.agg #[.int .i64 a, .int .i64 b, .int .i64 d, .int .i64 e0], .int .i64 st, .int .i64 p, .int .i64 f, .slice A l.length c] w fun e w' => e = .returned (.bool true) ∧ Below w.heap.size w w' := by
  by_cases hlen : 30 < l.length
  · have h : (30 : Int) < (l.length : Int) := by omega
    go_enter Try.func6, Try.ntmps6
    go_wp2_with (go_at_call 16; refine (awake18 _).mono ?_; rintro e w1 ⟨rfl, hb1⟩)
    go_ret
    exact ⟨rfl, (by repeat (first | exact Below.refl _ _ | assumption | refine below_call2 (by assumption) ?_ (by first | omega | (simp; done) | (simp; omega) | (simp [World.setCell]; omega)) | refine below_drewN ?_ _ | refine Below.drew ?_ | refine Below.alloc ?_ (by first | omega | (simp; done) | (simp; omega) | (simp [World.setCell]; omega)) _ | refine Below.setCell ?_ (by first | omega | (simp; done) | (simp; omega) | (simp [World.setCell]; omega)) _))⟩
  have hl30 : ¬ (30 : Int) < (l.length : Int) := by omega
  have hl31 : l.length ≤ 30 := by omega
  clear hlen
  go_enter Try.func6, Try.ntmps6
  go_wp2_with fail
  obtain ⟨w0, hw0⟩ : ∃ w0, w0 = w.alloc (.cells #[.int .i64 a, .int .i64 b, .int .i64 d, .int .i64 e0] 42) := ⟨_, rfl⟩
  have hB0 : Blk w0 w.heap.size 42 #[.int .i64 a, .int .i64 b, .int .i64 d, .int .i64 e0] := hw0 ▸ Blk.new w _ _
  have hb0 : Below w.heap.size w w0 := hw0 ▸ (by repeat (first | exact Below.refl _ _ | assumption | refine below_call2 (by assumption) ?_ (by first | omega | (simp; done) | (simp; omega) | (simp [World.setCell]; omega)) | refine below_drewN ?_ _ | refine Below.drew ?_ | refine Below.alloc ?_ (by first | omega | (simp; done) | (simp; omega) | (simp [World.setCell]; omega)) _ | refine Below.setCell ?_ (by first | omega | (simp; done) | (simp; omega) | (simp [World.setCell]; omega)) _))
  have hr0 : Reads w0 w.heap.size 1 A l.length (l.map (.int .i64)) := hr.below hb0
  have hself : sameL (runS p l) (runS p l) = true := by simp [sameL]
  have hRl := runS_length p l
  rw [← hw0]
  clear hw0 hr
  have k0 := hB0.cell 0
  have k1 := hB0.cell 1
  have k2 := hB0.cell 2
  have k3 := hB0.cell 3
  have hz0 := hB0.lt
  simp at k0 k1 k2 k3
  obtain ⟨L, hL⟩ : ∃ L, L = runS p l := ⟨_, rfl⟩
  have C1 := run_any p A c l
  have C2 := refrun_any p A c l
  rw [← hL] at hRl hself C1 C2
  have C3 := fun A B c d w N h1 h2 => sameInts_any A B c d L L w N h1 h2 (by omega) (by omega)
  simp only [hRl, hself] at C3
  replace C3 := Lib.hid C3
  replace C1 := Lib.hid C1
  replace C2 := Lib.hid C2
  replace hRl := Lib.hid hRl
  clear hL
  go_region_held3 (fun w' => Below (w.heap.size + 1) w0 w' ∧ w'.cell? ⟨w.heap.size, 0, none⟩ = some (.int .i64 a) ∧ w'.cell? ⟨w.heap.size, 1, none⟩ = some (.int .i64 b) ∧ w'.cell? ⟨w.heap.size, 2, none⟩ = some (.int .i64 d) ∧ w'.cell? ⟨w.heap.size, 3, none⟩ = some (.int .i64 e0)) ((first | assumption | ((refine ⟨?_, ?_⟩; (first | assumption | exact (Below.refl _ _).drew); go_keep)))) (first
    | (go_at_call 30; refine (right_any _ _ _ _ _).mono ?_; rintro e w1 ⟨rfl, hb1⟩; have hS := held_on hz0 (by assumption) hb1)
    | (go_at_call 31; refine (refright_any _ _ _ _ _).mono ?_; rintro e w1 ⟨rfl, hb1⟩; have hS := held_on hz0 (by assumption) hb1)
    | (go_at_call 32; refine (idle_any _ _ _ _ _ _).mono ?_; rintro e w1 ⟨rfl, hb1⟩; have hS := held_on hz0 (by assumption) hb1)
    | (go_at_call 33; refine (refidle_any _ _ _ _ _ _).mono ?_; rintro e w1 ⟨rfl, hb1⟩; have hS := held_on hz0 (by assumption) hb1)
    | (go_at_call 34; refine (name_any _ _).mono ?_; rintro e w1 ⟨rfl, hb1⟩; have hS := held_on hz0 (by assumption) hb1)
    | (go_at_call 35; refine (refname_any _ _).mono ?_; rintro e w1 ⟨rfl, rfl⟩)
    | (go_at_call 36; refine (first_any _ _ _).mono ?_; rintro e w1 ⟨rfl, rfl⟩)
    | (go_at_call 37; refine (reffirst_any _ _ _).mono ?_; rintro e w1 ⟨rfl, rfl⟩)
    | (go_at_call 38; refine (begin_any _ _ _).mono ?_; rintro e w1 ⟨rfl, rfl⟩)
    | (go_at_call 39; refine (refbegin_any _ _ _).mono ?_; rintro e w1 ⟨rfl, rfl⟩)
    | (go_at_call 40; refine (next_any _ _ _).mono ?_; rintro e w1 ⟨rfl, rfl⟩)
    | (go_at_call 41; refine (refnext_any _ _ _).mono ?_; rintro e w1 ⟨rfl, rfl⟩)
    | (go_at_call 17; refine (C1.out _ (by exact reads_held (by assumption) hz0 hr0) (by omega)).mono ?_; rintro e w1 ⟨rfl, hrow1, hb1⟩; have hS := held_on hz0 (by assumption) hb1)
    | (go_at_call 42; refine (C2.out _ (by exact reads_held (by assumption) hz0 hr0) (by omega)).mono ?_; rintro e w2 ⟨A2, c2, rfl, hown2, hb2⟩; have hS := held_on hz0 (by assumption) hb2; have hR1 := reads_row_len (hrow1.of_block (hb2.block _ hrow1.lt)) hRl.out (Nat.lt_of_lt_of_le hrow1.lt hb2.size); have hR2 := Reads.of_own hown2)
    | (go_at_call 28; refine (C3.out _ _ _ _ _ w2.heap.size hR1 hR2).mono ?_; rintro e w' ⟨rfl, m6, rfl⟩; have hS := held_on hz0 (by assumption) (below_drewN (Below.refl _ w2) m6))
    | (go_at_call 16; refine (awake18 _).mono ?_; rintro e w1 ⟨rfl, hb1⟩; have hS := held_on hz0 (by assumption) hb1))
  go_wp2_with fail
  go_ret
  have hSf := hS.1
  exact ⟨rfl, hb0.trans (hSf.mono (by omega))⟩
end Go.Proofs.Ytdkcjfcjckpjcaa
