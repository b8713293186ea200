/- table: the document's New. -/
import Derived.Test.YtmkknjhalcocmaaGreatJ33
import Derived.Test.YtmkknjhalcocmaaGreatJ21
namespace Go.Proofs.YtmkknjhalcocmaaGreat
open Go Go.RowKit Go.Deep Go.Maps Go.ChangeMaps

theorem szd (w : World) : w.drew.heap.size = w.heap.size := rfl
theorem liveE_unused {E : Nat → Slt} (h : ∀ k, (E k).used = false) : ∀ n : Nat, liveE E n = []
  | 0 => rfl
  | n + 1 => by rw [liveE_succ, h n, if_neg (by decide), liveE_unused h n]
theorem info_u64T : (Tryz.prog.info? 33).map (fun i => (i.zero, i.size, i.bytes)) = some (some (.int .u64 0), 1, 8) := by kernel_rfl
/-- What a new table holds. -/
def s0T (n : Nat) : TSt := ⟨0, [], upto n 0, fun k => { slt0 with sl := k }, 0⟩
theorem dtab_made {W : World} {fs wg gb n : Nat} {F Y : Nat → Prop} {a1 a2 a3 a4 G : Int} (b : Int) (hF : RefP W fs n (upto n 0) F) (hY : RWheelP W wg G 0 [] Y) (hG : W.rowIs gb 33 n (fun _ => .int .u64 0)) (d1 : ∀ y, F y → ¬ Y y) (d2 : ∀ y, F y ∨ Y y → y ≠ gb) (hn : n ≤ 4096) :
    DTabP (W.alloc (.cells #[.int .i64 b, .int .i64 a1, .int .i64 a2, .int .i64 a3, .int .i64 a4, .pointer (some ⟨fs, 0, none⟩), .pointer (some ⟨wg, 0, none⟩), .slice none 0 0, .slice (some ⟨gb, 0, none⟩) n n, .int .i64 0] 47)) W.heap.size n b ⟨a1, a2, a3, a4, G⟩ (dOf n (s0T n)) (fun y => y = W.heap.size ∨ y = gb ∨ InB none y ∨ F y ∨ Y y) := by
  have k : Chg (fun _ => False) W (W.alloc (.cells #[.int .i64 b, .int .i64 a1, .int .i64 a2, .int .i64 a3, .int .i64 a4, .pointer (some ⟨fs, 0, none⟩), .pointer (some ⟨wg, 0, none⟩), .slice none 0 0, .slice (some ⟨gb, 0, none⟩) n n, .int .i64 0] 47)) := Chg.of_below (below_alloc (Below.refl _ _) _)
  have hgl := hG.lt
  have e : (dOf n (s0T n)).LL = [] := liveE_unused (E := (s0T n).E) (fun _ => rfl) n
  refine ⟨fs, wg, gb, F, Y, none, 0, ?_, hF.chg k fun _ _ h => h, hY.chg k fun _ _ h => h, ?_, (rowIs_chg hG k fun h => h).congr fun _ _ => rfl, fun y => Iff.rfl, d1, fun y hy => ⟨fun e => ?_, d2 y hy, fun hi => inB_none hi⟩, by omega, fun y hi => absurd hi inB_none, hn⟩
  · rw [e]
    exact Blk.new W _ _
  · rw [e]
    exact OwnA.nil _ _
  · rcases hy with hy | hy
    · have := hF.lt hy
      omega
    · have := hY.lt hy
      omega
set_option maxRecDepth 100000 in
set_option maxHeartbeats 16000000 in
theorem dtab_new (b : Nat) (hb : b ≤ 12) (a1 a2 a3 a4 : Int) (hr : rightS a1 a2 a3 a4 = true) (G : Int) (hG : 1 ≤ G ∧ G ≤ 1024) (w : World) :
    Calls Tryz.prog 6 #[.int .i64 b, .agg #[.int .i64 a1, .int .i64 a2, .int .i64 a3, .int .i64 a4], .int .i64 G] w fun e w' => ∃ g X, e = .returned (.pointer (some ⟨g, 0, none⟩)) ∧ DTabP w' g (2 ^ b) b ⟨a1, a2, a3, a4, G⟩ (dOf (2 ^ b) (s0T (2 ^ b))) X ∧ Below w.heap.size w w' ∧ ∀ y, X y → w.heap.size ≤ y := by
  obtain ⟨n, hn⟩ : ∃ n, 2 ^ b = n := ⟨_, rfl⟩
  have hn2 : n ≤ 4096 := by rw [← hn]; exact Nat.le_trans (Nat.pow_le_pow_right (by omega) hb) (by decide)
  have hsh : IntKind.i64.wrap (2 ^ b) = (n : Int) := by
    have e : ((2 : Int) ^ b) = (n : Int) := by rw [← hn]; simp
    rw [e]
    simp [IntKind.wrap, IntKind.bits, IntKind.signed]
    omega
  rw [hn]
  have x1 : decide ((b : Int) < 0) = false := by simp
  have x2 : decide ((12 : Int) < (b : Int)) = false := by simp; omega
  have x3 : decide (12 < b) = false := by simp; omega
  have WN := Lib.hid fun W => rwheelp_new G W hG
  have SN := Lib.hid fun W => refnew_yes n W hn2
  have RT := Lib.hid fun W => refright_any a1 a2 a3 a4 W
  rw [hr] at RT
  replace hn := Lib.hid hn
  go_enter Tryz.func6, Tryz.ntmps6
  go_upto_region 1 with fail
  have R0 := Blk.new w 23 #[.int .i64 a1, .int .i64 a2, .int .i64 a3, .int .i64 a4]
  have hb0 : Below w.heap.size w (w.alloc (.cells #[.int .i64 a1, .int .i64 a2, .int .i64 a3, .int .i64 a4] 23)) := below_alloc (Below.refl _ _) _
  generalize w.alloc (.cells #[.int .i64 a1, .int .i64 a2, .int .i64 a3, .int .i64 a4] 23) = w0 at *
  obtain ⟨r, hrr⟩ : ∃ r, w.heap.size = r := ⟨_, rfl⟩
  rw [hrr] at R0
  try rw [hrr]
  have c0 := R0.cell 0
  have c1 := R0.cell 1
  have c2 := R0.cell 2
  have c3 := R0.cell 3
  simp at c0 c1 c2 c3
  go_upto_region 3 with (first
    | (go_at_call 21; (with_reducible refine (RT.out _).mono ?_); rintro e w1 ⟨rfl, hb1⟩)
    | (go_at_call 22; (with_reducible refine (WN.out _).mono ?_); rintro e w2 ⟨wgX, YX, rfl, -, hb2, -⟩))
  have d0 := (hb2.cell (block_lt_of_cell ((hb1.cell (block_lt_of_cell c0)).trans c0))).trans ((hb1.cell (block_lt_of_cell c0)).trans c0)
  have d1 := (hb2.cell (block_lt_of_cell ((hb1.cell (block_lt_of_cell c1)).trans c1))).trans ((hb1.cell (block_lt_of_cell c1)).trans c1)
  have d2 := (hb2.cell (block_lt_of_cell ((hb1.cell (block_lt_of_cell c2)).trans c2))).trans ((hb1.cell (block_lt_of_cell c2)).trans c2)
  have d3 := (hb2.cell (block_lt_of_cell ((hb1.cell (block_lt_of_cell c3)).trans c3))).trans ((hb1.cell (block_lt_of_cell c3)).trans c3)
  have hb02 : Below w.heap.size w w2 := below_chain hb2 (below_chain hb1 hb0)
  clear c0 c1 c2 c3 R0 hb1 hb2 hb0 RT
  have hmk := run_make_row' (P := Tryz.prog) 45 33 (.int .u64 0) 8 Tryz.underlying45 info_u64T rfl .i64 .i64 n (by omega) (by omega)
  have HA := Lib.hid fun (W : World) (o : Obj) (h : Below w2.heap.size w2 W ∧ W.cell? ⟨r, 0, none⟩ = some (.int .i64 a1) ∧ W.cell? ⟨r, 1, none⟩ = some (.int .i64 a2) ∧ W.cell? ⟨r, 2, none⟩ = some (.int .i64 a3) ∧ W.cell? ⟨r, 3, none⟩ = some (.int .i64 a4)) => hold4 h (below_alloc (Below.refl W.heap.size W) o)
  have hz2 := hb02.size
  go_region_held3 (fun W => Below w2.heap.size w2 W ∧ W.cell? ⟨r, 0, none⟩ = some (.int .i64 a1) ∧ W.cell? ⟨r, 1, none⟩ = some (.int .i64 a2) ∧ W.cell? ⟨r, 2, none⟩ = some (.int .i64 a3) ∧ W.cell? ⟨r, 3, none⟩ = some (.int .i64 a4)) (first | ((first | assumption | ((refine ⟨?_, ?_⟩; (first | assumption | exact (Below.refl _ _).drew | exact Below.refl _ _); go_keep)))) | exact HA.out _ _ (by assumption)) (first
    | (go_at_call 23; (with_reducible refine (SN.out _).mono ?_); rintro e w3 ⟨fs, F3, rfl, hP3, hb3, hF3⟩; have hS3 := hold4 (by assumption) hb3)
    | (go_at_call 22; (with_reducible refine (WN.out _).mono ?_); rintro e w4 ⟨wg, Y4, rfl, hW4, hb4, hY4⟩; have hS4 := hold4 (by assumption) hb4))
  · have hz3 : w2.heap.size ≤ w3.heap.size := hb3.size
    have hz4 := hb4.size
    have hl3 : ∀ y, F3 y → w2.heap.size ≤ y ∧ y < w3.heap.size := fun y hy => ⟨hF3 y hy, hP3.lt hy⟩
    have hl4 : ∀ y, Y4 y → w3.heap.size ≤ y ∧ y < w4.heap.size := fun y hy => ⟨hY4 y hy, hW4.lt hy⟩
    have hT := dtab_made (a1 := a1) (a2 := a2) (a3 := a3) (a4 := a4) (b : Int) (show RefP _ fs n (upto n 0) F3 from by rw [upto_zero]; exact hP3.chg (G := fun _ => False) (Chg.of_below (below_alloc hb4 (.cells (madeCells #[.int .u64 0] n) 33))) (fun _ _ h => h)) (hW4.chg (F := fun _ => False) (Chg.of_below (below_alloc (Below.refl _ _) (.cells (madeCells #[.int .u64 0] n) 33))) (fun _ _ h => h)) (World.rowIs_made w4 (.int .u64 0) n 33) (fun y h1 h2 => by have := hl3 y h1; have := hl4 y h2; omega) (fun y h => by
      rcases h with h | h
      · have := hl3 y h
        omega
      · have := hl4 y h
        omega) hn2
    have hbW : Below w.heap.size w ((w4.alloc (.cells (madeCells #[.int .u64 0] n) 33)).alloc (.cells #[.int .i64 (b : Int), .int .i64 a1, .int .i64 a2, .int .i64 a3, .int .i64 a4, .pointer (some ⟨fs, 0, none⟩), .pointer (some ⟨wg, 0, none⟩), .slice none 0 0, .slice (some ⟨w4.heap.size, 0, none⟩) n n, .int .i64 0] 47)) := below_alloc (below_chain (below_alloc (below_chain hb4 (below_chain hb3 (Below.refl w2.heap.size w2).drew)) (.cells (madeCells #[.int .u64 0] n) 33)) hb02) _
    have hXn : ∀ y, (y = (w4.alloc (.cells (madeCells #[.int .u64 0] n) 33)).heap.size ∨ y = w4.heap.size ∨ InB none y ∨ F3 y ∨ Y4 y) → w.heap.size ≤ y := fun y hy => by
      have hzb := (below_chain (below_alloc (below_chain hb4 (below_chain hb3 (Below.refl w2.heap.size w2).drew)) (.cells (madeCells #[.int .u64 0] n) 33)) hb02).size
      rcases hy with h | h | h | h | h
      · omega
      · omega
      · exact absurd h inB_none
      · have := hl3 y h
        omega
      · have := hl4 y h
        omega
    rw [World.size_alloc] at hT hXn
    replace hT := Lib.hid hT
    replace hbW := Lib.hid hbW
    replace hXn := Lib.hid hXn
    clear hP3 hW4 hF3 hY4 hS3 hS4 hl3 hl4
    go_wp2_with fail
    go_ret
    exact ⟨_, _, rfl, hT.out, hbW.out, hXn.out⟩
  · have hz3 : w2.heap.size ≤ w3.heap.size := hb3.size
    have hz4 := hb4.size
    rw [World.size_alloc] at hz4
    have hl3 : ∀ y, F3 y → w2.heap.size ≤ y ∧ y < w3.heap.size := fun y hy => ⟨hF3 y hy, hP3.lt hy⟩
    have hl4 : ∀ y, Y4 y → w3.heap.size + 1 ≤ y ∧ y < w4.heap.size := fun y hy => ⟨by have := hY4 y hy; rw [World.size_alloc] at this; exact this, hW4.lt hy⟩
    have hT := dtab_made (a1 := a1) (a2 := a2) (a3 := a3) (a4 := a4) (b : Int) (show RefP _ fs n (upto n 0) F3 from by rw [upto_zero]; exact hP3.chg (G := fun _ => False) (Chg.of_below (below_chain hb4 (below_alloc (Below.refl _ _) (.cells (madeCells #[.int .u64 0] n) 33)))) (fun _ _ h => h)) hW4 (rowIs_call (World.rowIs_made w3 (.int .u64 0) n 33) hb4) (fun y h1 h2 => by have := hl3 y h1; have := hl4 y h2; omega) (fun y h => by
      rcases h with h | h
      · have := hl3 y h
        omega
      · have := hl4 y h
        omega) hn2
    have hbW : Below w.heap.size w (w4.alloc (.cells #[.int .i64 (b : Int), .int .i64 a1, .int .i64 a2, .int .i64 a3, .int .i64 a4, .pointer (some ⟨fs, 0, none⟩), .pointer (some ⟨wg, 0, none⟩), .slice none 0 0, .slice (some ⟨w3.heap.size, 0, none⟩) n n, .int .i64 0] 47)) := below_alloc (below_chain (below_chain hb4 (below_alloc (below_chain hb3 (Below.refl w2.heap.size w2).drew) (.cells (madeCells #[.int .u64 0] n) 33))) hb02) _
    have hXn : ∀ y, (y = w4.heap.size ∨ y = w3.heap.size ∨ InB none y ∨ F3 y ∨ Y4 y) → w.heap.size ≤ y := fun y hy => by
      have hzb := (below_chain (below_chain hb4 (below_alloc (below_chain hb3 (Below.refl w2.heap.size w2).drew) (.cells (madeCells #[.int .u64 0] n) 33))) hb02).size
      rcases hy with h | h | h | h | h
      · omega
      · omega
      · exact absurd h inB_none
      · have := hl3 y h
        omega
      · have := hl4 y h
        omega
    replace hT := Lib.hid hT
    replace hbW := Lib.hid hbW
    replace hXn := Lib.hid hXn
    clear hP3 hW4 hF3 hY4 hS3 hS4 hl3 hl4
    go_wp2_with fail
    go_ret
    exact ⟨_, _, rfl, hT.out, hbW.out, hXn.out⟩
  · have hz3 : w2.heap.size + 1 ≤ w3.heap.size := by
      have h9 : (w2.alloc (.cells (madeCells #[.int .u64 0] n) 33)).heap.size ≤ w3.heap.size := hb3.size
      rwa [World.size_alloc] at h9
    have hz4 := hb4.size
    have hl3 : ∀ y, F3 y → w2.heap.size + 1 ≤ y ∧ y < w3.heap.size := fun y hy => ⟨by have h9 : (w2.alloc (.cells (madeCells #[.int .u64 0] n) 33)).heap.size ≤ y := hF3 y hy; rwa [World.size_alloc] at h9, hP3.lt hy⟩
    have hl4 : ∀ y, Y4 y → w3.heap.size ≤ y ∧ y < w4.heap.size := fun y hy => ⟨hY4 y hy, hW4.lt hy⟩
    have hT := dtab_made (a1 := a1) (a2 := a2) (a3 := a3) (a4 := a4) (b : Int) (show RefP _ fs n (upto n 0) F3 from by rw [upto_zero]; exact hP3.chg (G := fun _ => False) (Chg.of_below hb4) (fun _ _ h => h)) hW4 (rowIs_call (rowIs_call (show (w2.alloc (.cells (madeCells #[.int .u64 0] n) 33)).drew.rowIs w2.heap.size 33 n (fun _ => .int .u64 0) from World.rowIs_made w2 (.int .u64 0) n 33) hb3) hb4) (fun y h1 h2 => by have := hl3 y h1; have := hl4 y h2; omega) (fun y h => by
      rcases h with h | h
      · have := hl3 y h
        omega
      · have := hl4 y h
        omega) hn2
    have hbW : Below w.heap.size w (w4.alloc (.cells #[.int .i64 (b : Int), .int .i64 a1, .int .i64 a2, .int .i64 a3, .int .i64 a4, .pointer (some ⟨fs, 0, none⟩), .pointer (some ⟨wg, 0, none⟩), .slice none 0 0, .slice (some ⟨w2.heap.size, 0, none⟩) n n, .int .i64 0] 47)) := below_alloc (below_chain (below_chain hb4 (below_chain hb3 (below_alloc (Below.refl w2.heap.size w2) (.cells (madeCells #[.int .u64 0] n) 33)).drew)) hb02) _
    have hXn : ∀ y, (y = w4.heap.size ∨ y = w2.heap.size ∨ InB none y ∨ F3 y ∨ Y4 y) → w.heap.size ≤ y := fun y hy => by
      have hzb := (below_chain (below_chain hb4 (below_chain hb3 (below_alloc (Below.refl w2.heap.size w2) (.cells (madeCells #[.int .u64 0] n) 33)).drew)) hb02).size
      rcases hy with h | h | h | h | h
      · omega
      · omega
      · exact absurd h inB_none
      · have := hl3 y h
        omega
      · have := hl4 y h
        omega
    replace hT := Lib.hid hT
    replace hbW := Lib.hid hbW
    replace hXn := Lib.hid hXn
    clear hP3 hW4 hF3 hY4 hS3 hS4 hl3 hl4
    go_wp2_with fail
    go_ret
    exact ⟨_, _, rfl, hT.out, hbW.out, hXn.out⟩
end Go.Proofs.YtmkknjhalcocmaaGreat
