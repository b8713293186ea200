/- table: the law TablePlays, called. table: the law TablePlays, called: tables that may not be, and those that may. -/
import Derived.Test.YtmkknjhalcocmaaGreatJ39
import Derived.Test.YtmkknjhalcocmaaGreatJ23
import Derived.Test.YtmkknjhalcocmaaGreatJ24
import Derived.Deep.CutRange
import Derived.Deep.CutBlock
import Derived.Deep.LoopGhost
namespace Go.Proofs.YtmkknjhalcocmaaGreat
open Go Go.RowKit Go.Deep Go.Maps Go.ChangeMaps

section
variable {w0 w w' : World} {g sb n g2 : Nat} {b : Int} {c : TCfg} {s s1 s2 : TSt} {K K1 K2 : Nat → Prop}
theorem TwoT.call0 (h : TwoT w0 w g sb n g2 b c s1 s2 K1 K2) (hb : Below w.heap.size w w') : TwoT w0 w' g sb n g2 b c s1 s2 K1 K2 := (h.call hb).mono (fun _ h => .inl h) (fun _ h => .inl h)
/-- A step of both, whatever it is. -/
theorem one_any (h : TwoT w0 w g sb n g2 b c s s K K) (hK : ∀ y, K y → y < w.heap.size) (st : TStp) :
    Calls Tryz.prog 7 #[.pointer (some ⟨g, 0, none⟩), .pointer (some ⟨g2, 0, none⟩), st.val] w fun e w' => e = .returned (.bool true) ∧ TwoTo w0 w w' g sb n g2 b c K := by
  by_cases e0 : st.kd = 0
  · exact one_open h hK st e0
  by_cases e1 : st.kd = 1
  · exact one_find h hK st e1
  by_cases e2 : st.kd = 2
  · exact one_touch h hK st e2
  by_cases e3 : st.kd = 3
  · exact one_close h hK st e3
  by_cases e4 : st.kd = 4
  · exact one_go h hK st e4
  by_cases e5 : st.kd = 5
  · exact one_drop h hK st e5
  exact one_else h hK st ⟨e0, e1, e2, e3, e4, e5⟩
/-- What the law reads of the document's table. -/
theorem TwoT.doc (h : TwoT w0 w g sb n g2 b c s1 s2 K1 K2) : ∃ (fs gb : Nat) (A : Option Addr) (q : Nat) (B : Option Addr) (q2 : Nat), w.cell? ⟨g2, 5, none⟩ = some (.pointer (some ⟨fs, 0, none⟩)) ∧ w.cell? ⟨g2, 7, none⟩ = some (.slice A (liveL n s2).length q) ∧ w.cell? ⟨g2, 8, none⟩ = some (.slice (some ⟨gb, 0, none⟩) n n) ∧ w.cell? ⟨g2, 9, none⟩ = some (.int .i64 s2.lk) ∧
    w.cell? ⟨fs, 1, none⟩ = some (.slice B s2.L.length q2) ∧ OwnE w 0 A q (liveL n s2) ∧ w.rowIs gb 33 n (fun k => .int .u64 (s2.E k).gen) ∧ n ≤ 4096 := by
  obtain ⟨a1, a2, a3, a4, X, Y, k1, ⟨fs, wg, gb, F, Y', A, q, h1, h2, h3, h4, h5, h6, h7, h8, h9, h10, h11⟩, k3, k4⟩ := h
  obtain ⟨B, q2, m1, -⟩ := h2
  exact ⟨fs, gb, A, q, B, q2, h1.cell 5, h1.cell 7, h1.cell 8, h1.cell 9, m1.cell 1, h4, h5, h11⟩
theorem TwoT.code (h : TwoT w0 w g sb n g2 b c s1 s2 K1 K2) : ∃ X, TabP w g sb n c s1 X := by
  obtain ⟨a1, a2, a3, a4, X, Y, k1, -⟩ := h
  exact ⟨X, k1⟩
theorem twot_live (h : TwoT w0 w g sb n g2 b c s1 s2 K1 K2) :
    Calls Tryz.prog 9 #[.pointer (some ⟨g, 0, none⟩)] w fun e w' => ∃ (A : Option Addr) (q : Nat), e = .returned (.slice A (liveL n s1).length q) ∧ OwnE w' w.heap.size A q (liveL n s1) ∧ Below w.heap.size w w' := by
  obtain ⟨X, k⟩ := h.code
  exact tab_live k
theorem twot_free (h : TwoT w0 w g sb n g2 b c s1 s2 K1 K2) : Calls Tryz.prog 10 #[.pointer (some ⟨g, 0, none⟩)] w fun e w' => e = .returned (.int .i64 s1.L.length) ∧ w = w' := by
  obtain ⟨X, k⟩ := h.code
  exact tab_free k
theorem twot_looks (h : TwoT w0 w g sb n g2 b c s1 s2 K1 K2) : Calls Tryz.prog 11 #[.pointer (some ⟨g, 0, none⟩)] w fun e w' => e = .returned (.int .i64 s1.lk) ∧ w = w' := by
  obtain ⟨X, k⟩ := h.code
  exact tab_looks k
theorem twot_gen (h : TwoT w0 w g sb n g2 b c s1 s2 K1 K2) (i : Int) : Calls Tryz.prog 12 #[.pointer (some ⟨g, 0, none⟩), .int .i64 i] w fun e w' => e = .returned (.int .u64 (genI n s1.E i)) ∧ w = w' := by
  obtain ⟨X, k⟩ := h.code
  exact tab_gen k i
/-- Both tables as they are made. -/
theorem TwoT.made {X Y : Nat → Prop} {w1 w2 : World} {a1 a2 a3 a4 G : Int} (h1 : TabP w1 g sb n ⟨a1, a2, a3, a4, G⟩ (s0T n) X) (h2 : DTabP w2 g2 n b ⟨a1, a2, a3, a4, G⟩ (dOf n (s0T n)) Y) (hr : rightS a1 a2 a3 a4 = true) (b1 : Below w0.heap.size w0 w1) (b2 : Below w1.heap.size w1 w2) (x1 : ∀ y, X y → w0.heap.size ≤ y) (x2 : ∀ y, Y y → w1.heap.size ≤ y) :
    TwoT w0 w2 g sb n g2 b ⟨a1, a2, a3, a4, G⟩ (s0T n) (s0T n) (fun _ => False) (fun _ => False) := by
  have hz := b1.size
  exact ⟨TI.new n, TI.new n, right_idle hr, below_chain b2 b1, X, Y, h1.call b2, h2, fun y hy => ⟨x1 y hy, id, fun hy2 => by have := x2 y hy2; have := h1.lt hy; omega⟩, fun y hy => ⟨by have := x2 y hy; omega, id⟩⟩
end
set_option maxRecDepth 100000 in
set_option maxHeartbeats 16000000 in
theorem tablePlays_awake (b a1 a2 a3 a4 G : Int) (l : List TStp) (B : Option Addr) (d : Nat) (w : World) (hg : (4 < b ∧ b ≤ 12) ∨ 40 < l.length) :
    Calls Tryz.prog 3 #[.int .i64 b, .agg #[.int .i64 a1, .int .i64 a2, .int .i64 a3, .int .i64 a4], .int .i64 G, .slice B l.length d] w fun e w' => e = .returned (.bool true) ∧ Below w.heap.size w w' := by
  have hb0 : Below w.heap.size w (w.alloc (.cells #[.int .i64 a1, .int .i64 a2, .int .i64 a3, .int .i64 a4] 23)) := below_alloc (Below.refl _ _) _
  by_cases x1 : 4 < b
  · have y1 : decide (4 < b) = true := by simpa using x1
    by_cases x2 : b ≤ 12
    · have y2 : decide (b ≤ 12) = true := by simpa using x2
      clear hg
      go_enter Tryz.func3, Tryz.ntmps3
      go_upto_region 1 with fail
      generalize w.alloc (.cells #[.int .i64 a1, .int .i64 a2, .int .i64 a3, .int .i64 a4] 23) = w1 at *
      go_wp2_with (go_at_call 4; (with_reducible refine (awake19 _).mono ?_); rintro e w2 ⟨rfl, hb1⟩)
      go_ret
      exact ⟨rfl, below_chain hb1 hb0⟩
    · have y2 : decide (b ≤ 12) = false := by simpa using x2
      have y3 : decide ((40 : Int) < (l.length : Int)) = true := by simp; omega
      have y4 : decide (40 < l.length) = true := by simp; omega
      clear hg
      go_enter Tryz.func3, Tryz.ntmps3
      go_upto_region 1 with fail
      generalize w.alloc (.cells #[.int .i64 a1, .int .i64 a2, .int .i64 a3, .int .i64 a4] 23) = w1 at *
      go_wp2_with (go_at_call 4; (with_reducible refine (awake19 _).mono ?_); rintro e w2 ⟨rfl, hb1⟩)
      go_ret
      exact ⟨rfl, below_chain hb1 hb0⟩
  · have y1 : decide (4 < b) = false := by simpa using x1
    have y3 : decide ((40 : Int) < (l.length : Int)) = true := by simp; omega
    have y4 : decide (40 < l.length) = true := by simp; omega
    clear hg
    go_enter Tryz.func3, Tryz.ntmps3
    go_upto_region 1 with fail
    generalize w.alloc (.cells #[.int .i64 a1, .int .i64 a2, .int .i64 a3, .int .i64 a4] 23) = w1 at *
    go_wp2_with (go_at_call 4; (with_reducible refine (awake19 _).mono ?_); rintro e w2 ⟨rfl, hb1⟩)
    go_ret
    exact ⟨rfl, below_chain hb1 hb0⟩
end Go.Proofs.YtmkknjhalcocmaaGreat

namespace Go.Proofs.YtmkknjhalcocmaaGreat
open Go Go.RowKit Go.Deep Go.Maps Go.ChangeMaps

set_option maxRecDepth 100000 in
set_option maxHeartbeats 16000000 in
theorem tablePlays_no (b a1 a2 a3 a4 G : Int) (l : List TStp) (B : Option Addr) (d : Nat) (w : World) (h40 : l.length ≤ 40) (hbn : ¬ (4 < b ∧ b ≤ 12)) (hbad : b < 0 ∨ 12 < b ∨ rightS a1 a2 a3 a4 = false ∨ G < 1 ∨ 1024 < G) :
    Calls Tryz.prog 3 #[.int .i64 b, .agg #[.int .i64 a1, .int .i64 a2, .int .i64 a3, .int .i64 a4], .int .i64 G, .slice B l.length d] w fun e w' => e = .returned (.bool true) ∧ Below w.heap.size w w' := by
  have NW := Lib.hid fun W => tab_new_no b a1 a2 a3 a4 G hbad W
  have ND := Lib.hid fun W => dtab_new_no b a1 a2 a3 a4 G hbad W
  have y3 : decide ((40 : Int) < (l.length : Int)) = false := by simp; omega
  have y4 : decide (40 < l.length) = false := by simp; omega
  have R0 := Blk.new w 23 #[.int .i64 a1, .int .i64 a2, .int .i64 a3, .int .i64 a4]
  have hb0 : Below w.heap.size w (w.alloc (.cells #[.int .i64 a1, .int .i64 a2, .int .i64 a3, .int .i64 a4] 23)) := below_alloc (Below.refl _ _) _
  clear hbad
  obtain ⟨q1, hq1⟩ : ∃ q, decide (4 < b) = q := ⟨_, rfl⟩
  obtain ⟨q2, hq2⟩ : ∃ q, decide (b ≤ 12) = q := ⟨_, rfl⟩
  have hq : q1 = false ∨ q1 = true ∧ q2 = false := by
    subst hq1 hq2
    simp
    omega
  clear hbn
  go_enter Tryz.func3, Tryz.ntmps3
  go_upto_region 1 with fail
  generalize w.alloc (.cells #[.int .i64 a1, .int .i64 a2, .int .i64 a3, .int .i64 a4] 23) = w1 at *
  obtain ⟨r, hrr⟩ : ∃ r, w.heap.size = r := ⟨_, rfl⟩
  rw [hrr] at R0
  try rw [hrr]
  have RC := Lib.hid fun W (h : Below w1.heap.size w1 W) => show W.cell? ⟨r, 0, none⟩ = some (.int .i64 a1) ∧ W.cell? ⟨r, 1, none⟩ = some (.int .i64 a2) ∧ W.cell? ⟨r, 2, none⟩ = some (.int .i64 a3) ∧ W.cell? ⟨r, 3, none⟩ = some (.int .i64 a4) from ⟨(R0.call h).cell 0, (R0.call h).cell 1, (R0.call h).cell 2, (R0.call h).cell 3⟩
  obtain ⟨c0, c1, c2, c3⟩ := RC.out w1 (Below.refl _ _)
  clear R0
  rcases hq with rfl | ⟨rfl, rfl⟩
  all_goals
    go_upto_region 5 with (first
      | (go_at_call 5; (with_reducible refine (NW.out _).mono ?_); rintro e w2 ⟨rfl, hb2⟩; clear c0 c1 c2 c3; obtain ⟨c0, c1, c2, c3⟩ := RC.out w2 hb2)
      | (go_at_call 6; (with_reducible refine (ND.out _).mono ?_); rintro e w3 ⟨rfl, hb3⟩))
    clear c0 c1 c2 c3
    go_wp2_with fail
    go_loop [12] (fun iv => iv = .int .i64 0) (fun _ => 0)
    case atStart => rfl
    case round =>
      obtain rfl := hrel
      by_cases hl0 : (0 : Int) < (l.length : Int)
      all_goals
        go_wp2_with (go_at_call 4; (with_reducible refine (awake19 _).mono ?_); rintro e w5 ⟨rfl, hb5⟩)
        go_ret
        exact ⟨rfl, below_chain hb5 (below_chain hb3 (below_chain hb2 hb0))⟩
end Go.Proofs.YtmkknjhalcocmaaGreat
