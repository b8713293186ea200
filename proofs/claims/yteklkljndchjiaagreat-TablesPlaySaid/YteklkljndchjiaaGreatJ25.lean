/- wheel: the order in which numbers come: by turn, then by number. -/
import Derived.Test.YteklkljndchjiaaGreatJ23
import Derived.Test.YteklkljndchjiaaGreatJ24
import Derived.Test.YteklkljndchjiaaGreatSortIL
import Derived.Test.YteklkljndchjiaaGreatJ18
namespace Go.Proofs.YteklkljndchjiaaGreat
open Go Go.RowKit Go.Deep Go.Maps Go.ChangeMaps
theorem wcompare_int (x y : Int) (w : World) : Calls Tryz.prog 236 #[.int .i64 x, .int .i64 y] w fun e w' => e = .returned (.int .i64 (cmpI x y)) ∧ w = w' := by
 go_enter Tryz.func236, Tryz.ntmps236
 go_wp2
 all_goals go_ret
 all_goals refine ⟨ret_int ?_, rfl⟩
 all_goals (unfold cmpI; repeat' split) <;> omega
def ordT (G : Int) (M : LM) (x y : Int) : Int := orI (cmpI (turnI G (lmGet M x)) (turnI G (lmGet M y))) (cmpI x y)
section
variable {w : World} {base g bm : Nat} {G now : Int} {M : LM} {R : Nat → List Int} {A : Nat → Option Addr} {C : Nat → Nat} {T : Nat → Int} {Z : Array Value}
set_option maxRecDepth 100000 in
set_option maxHeartbeats 4000000 in
theorem wcmp_dr (h : WhAt w base g bm G now M R A C T Z) (hG : 1 ≤ G ∧ G ≤ 1024) (gv : Nat) (hv : w.cell? ⟨gv, 0, none⟩ = some (.pointer (some ⟨g, 0, none⟩))) (x y : Int) (hx : 0 ≤ x ∧ x ≤ 4095 ∧ 0 ≤ lmGet M x ∧ lmGet M x ≤ 2199023255552) (hy : 0 ≤ y ∧ y ≤ 4095 ∧ 0 ≤ lmGet M y ∧ lmGet M y ≤ 2199023255552) :
  Calls Tryz.prog 234 #[.int .i64 x, .int .i64 y, .pointer (some ⟨gv, 0, none⟩)] w fun e w' => e = .returned (.int .i64 (ordT G M x y)) ∧ Below w.heap.size w w' ∧ w.drawn ≤ w'.drawn := by
 have hkx : (Lit.int .i64 x).wf = true := wf_i64_mk (by omega) (by omega)
 have hky : (Lit.int .i64 y).wf = true := wf_i64_mk (by omega) (by omega)
 have TX : ∀ W, Below w.heap.size w W → Calls Tryz.prog 237 #[.pointer (some ⟨g, 0, none⟩), .int .i64 (lmGet M x)] W fun e w' => e = .returned (.int .i64 (turnI G (lmGet M x))) ∧ Below W.heap.size W w' ∧ W.drawn ≤ w'.drawn := fun W hb => (wheel_turn (h.call hb) hG _ ⟨hx.2.2.1, hx.2.2.2⟩).mono fun e w' ⟨h1, n, h2⟩ => ⟨h1, h2 ▸ below_drewN (Below.refl _ _) n, h2 ▸ Nat.le_add_right _ _⟩
 have TY : ∀ W, Below w.heap.size w W → Calls Tryz.prog 237 #[.pointer (some ⟨g, 0, none⟩), .int .i64 (lmGet M y)] W fun e w' => e = .returned (.int .i64 (turnI G (lmGet M y))) ∧ Below W.heap.size W w' ∧ W.drawn ≤ w'.drawn := fun W hb => (wheel_turn (h.call hb) hG _ ⟨hy.2.2.1, hy.2.2.2⟩).mono fun e w' ⟨h1, n, h2⟩ => ⟨h1, h2 ▸ below_drewN (Below.refl _ _) n, h2 ▸ Nat.le_add_right _ _⟩
 unfold ordT
 have LX := fun W (hb : Below w.heap.size w W) => (h.call hb).map.look hkx
 have LY := fun W (hb : Below w.heap.size w W) => (h.call hb).map.look hky
 have CV : ∀ W, Below w.heap.size w W → W.cell? ⟨gv, 0, none⟩ = some (.pointer (some ⟨g, 0, none⟩)) := fun W hb => (hb.cell (block_lt_of_cell hv)).trans hv
 have CM : ∀ W, Below w.heap.size w W → W.cell? ⟨g, 2, none⟩ = some (.map (some bm)) := fun W hb => (h.call hb).cell h.z2
 generalize lmGet M x = dx at *
 generalize lmGet M y = dy at *
 generalize turnI G dx = tx at *
 generalize turnI G dy = ty at *
 have C1 := fun W => wcompare_int tx ty W
 have C2 := fun W => wcompare_int x y W
 generalize cmpI tx ty = c1 at *
 generalize cmpI x y = c2 at *
 have OR := fun g W h => or_any c1 c2 g W h
 generalize orI c1 c2 = c3 at *
 have hS0 : ∀ W, Below w.heap.size w W → w.drawn ≤ W.drawn → Below w.heap.size w W ∧ w.drawn ≤ W.drawn ∧ W.cell? ⟨gv, 0, none⟩ = some (.pointer (some ⟨g, 0, none⟩)) ∧ W.cell? ⟨g, 2, none⟩ = some (.map (some bm)) ∧ (Instr.lookup 161 (.map (some bm)) (.int .i64 x) false).run Tryz.prog W = .ok (.int .i64 dx) W ∧ (Instr.lookup 161 (.map (some bm)) (.int .i64 y) false).run Tryz.prog W = .ok (.int .i64 dy) W := fun W hb hd => ⟨hb, hd, CV W hb, CM W hb, LX W hb, LY W hb⟩
 have hB : ∀ W, (Below w.heap.size w W ∧ w.drawn ≤ W.drawn ∧ W.cell? ⟨gv, 0, none⟩ = some (.pointer (some ⟨g, 0, none⟩)) ∧ W.cell? ⟨g, 2, none⟩ = some (.map (some bm)) ∧ (Instr.lookup 161 (.map (some bm)) (.int .i64 x) false).run Tryz.prog W = .ok (.int .i64 dx) W ∧ (Instr.lookup 161 (.map (some bm)) (.int .i64 y) false).run Tryz.prog W = .ok (.int .i64 dy) W) → Below w.heap.size w W := fun W h => h.1
 have hD : ∀ W, (Below w.heap.size w W ∧ w.drawn ≤ W.drawn ∧ W.cell? ⟨gv, 0, none⟩ = some (.pointer (some ⟨g, 0, none⟩)) ∧ W.cell? ⟨g, 2, none⟩ = some (.map (some bm)) ∧ (Instr.lookup 161 (.map (some bm)) (.int .i64 x) false).run Tryz.prog W = .ok (.int .i64 dx) W ∧ (Instr.lookup 161 (.map (some bm)) (.int .i64 y) false).run Tryz.prog W = .ok (.int .i64 dy) W) → w.drawn ≤ W.drawn := fun W h => h.2.1
 have hAl : ∀ W o, (Below w.heap.size w W ∧ w.drawn ≤ W.drawn ∧ W.cell? ⟨gv, 0, none⟩ = some (.pointer (some ⟨g, 0, none⟩)) ∧ W.cell? ⟨g, 2, none⟩ = some (.map (some bm)) ∧ (Instr.lookup 161 (.map (some bm)) (.int .i64 x) false).run Tryz.prog W = .ok (.int .i64 dx) W ∧ (Instr.lookup 161 (.map (some bm)) (.int .i64 y) false).run Tryz.prog W = .ok (.int .i64 dy) W) → (fun W => Below w.heap.size w W ∧ w.drawn ≤ W.drawn ∧ W.cell? ⟨gv, 0, none⟩ = some (.pointer (some ⟨g, 0, none⟩)) ∧ W.cell? ⟨g, 2, none⟩ = some (.map (some bm)) ∧ (Instr.lookup 161 (.map (some bm)) (.int .i64 x) false).run Tryz.prog W = .ok (.int .i64 dx) W ∧ (Instr.lookup 161 (.map (some bm)) (.int .i64 y) false).run Tryz.prog W = .ok (.int .i64 dy) W) (W.alloc o) := fun W o h => hS0 _ (below_alloc h.1 o) h.2.1
 have hDr : ∀ W, (Below w.heap.size w W ∧ w.drawn ≤ W.drawn ∧ W.cell? ⟨gv, 0, none⟩ = some (.pointer (some ⟨g, 0, none⟩)) ∧ W.cell? ⟨g, 2, none⟩ = some (.map (some bm)) ∧ (Instr.lookup 161 (.map (some bm)) (.int .i64 x) false).run Tryz.prog W = .ok (.int .i64 dx) W ∧ (Instr.lookup 161 (.map (some bm)) (.int .i64 y) false).run Tryz.prog W = .ok (.int .i64 dy) W) → (fun W => Below w.heap.size w W ∧ w.drawn ≤ W.drawn ∧ W.cell? ⟨gv, 0, none⟩ = some (.pointer (some ⟨g, 0, none⟩)) ∧ W.cell? ⟨g, 2, none⟩ = some (.map (some bm)) ∧ (Instr.lookup 161 (.map (some bm)) (.int .i64 x) false).run Tryz.prog W = .ok (.int .i64 dx) W ∧ (Instr.lookup 161 (.map (some bm)) (.int .i64 y) false).run Tryz.prog W = .ok (.int .i64 dy) W) W.drew := fun W h => hS0 _ h.1.drew (Nat.le_succ_of_le h.2.1)
 replace hAl := Lib.hid hAl
 replace hDr := Lib.hid hDr
 replace hB := Lib.hid hB
 replace hD := Lib.hid hD
 replace hS0 := Lib.hid hS0
 replace TX := Lib.hid TX
 replace TY := Lib.hid TY
 replace C1 := Lib.hid C1
 replace C2 := Lib.hid C2
 replace OR := Lib.hid OR
 have hS1 := hS0.out w (Below.refl _ _) (Nat.le_refl _)
 clear h hx hy hkx hky LX LY CV CM hv
 go_enter Tryz.func234, Tryz.ntmps234
 go_wp2_with fail
 go_region_held3 (fun W => Below w.heap.size w W ∧ w.drawn ≤ W.drawn ∧ W.cell? ⟨gv, 0, none⟩ = some (.pointer (some ⟨g, 0, none⟩)) ∧ W.cell? ⟨g, 2, none⟩ = some (.map (some bm)) ∧ (Instr.lookup 161 (.map (some bm)) (.int .i64 x) false).run Tryz.prog W = .ok (.int .i64 dx) W ∧ (Instr.lookup 161 (.map (some bm)) (.int .i64 y) false).run Tryz.prog W = .ok (.int .i64 dy) W)
  ((first | assumption | exact hAl.out _ _ (by assumption) | exact hDr.out _ (by assumption))) (first
  | (go_at_call 237; (with_reducible refine (TX.out _ (hB.out _ (by assumption))).mono ?_); rintro e w1 ⟨rfl, hb1, hd1⟩; have hS := hS0.out _ (below_chain hb1 (hB.out _ (by assumption))) (Nat.le_trans (hD.out _ (by assumption)) hd1))
  | (go_at_call 237; (with_reducible refine (TY.out _ (hB.out _ (by assumption))).mono ?_); rintro e w1 ⟨rfl, hb1, hd1⟩; have hS := hS0.out _ (below_chain hb1 (hB.out _ (by assumption))) (Nat.le_trans (hD.out _ (by assumption)) hd1))
  | (go_at_call 236; (with_reducible refine (C1.out _).mono ?_); rintro e w1 ⟨rfl, rfl⟩)
  | (go_at_call 236; (with_reducible refine (C2.out _).mono ?_); rintro e w1 ⟨rfl, rfl⟩)
  | (go_at_call 235; refine (OR.out _ _ (Blk.new _ _ _)).mono ?_; rintro e w1 ⟨rfl, rfl⟩))
 all_goals
  go_wp2_with fail
  go_ret
  exact ⟨rfl, by first | exact hB.out _ (by assumption) | exact below_alloc (hB.out _ (by assumption)) _, by first | exact hD.out _ (by assumption)⟩
end
end Go.Proofs.YteklkljndchjiaaGreat
