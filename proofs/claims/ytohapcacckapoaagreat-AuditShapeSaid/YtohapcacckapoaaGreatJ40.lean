/- tables: of, Cookie, Free. tables: the document's tables in memory, told by their blocks. tables: the document's of and Cookie. -/
import Derived.Test.YtohapcacckapoaaGreatJ35
import Derived.Test.YtohapcacckapoaaGreatJ27
import Derived.Test.YtohapcacckapoaaGreatJ28
import Derived.Test.YtohapcacckapoaaGreatJ9
import Derived.Test.YtohapcacckapoaaGreatJ38
import Derived.Test.YtohapcacckapoaaGreatJ29
namespace Go.Proofs.YtohapcacckapoaaGreat
open Go Go.RowKit Go.Deep Go.Maps Go.ChangeMaps
set_option maxRecDepth 100000 in
set_option maxHeartbeats 2000000 in
theorem tabs_given (g pb p q : Nat) (W : World) (hc : W.cell? ⟨g, 11, none⟩ = some (.slice (some ⟨pb, 0, none⟩) p q)) (hp : 1 ≤ p) : Calls Tryz.prog 104 #[.pointer (some ⟨g, 0, none⟩)] W fun e w' => e = .returned (.bool true) ∧ W = w' := by
 have x1 : decide ((0 : Int) < (p : Int)) = true := by simp; omega
 have x2 : decide (0 < p) = true := by simp; omega
 go_enter Tryz.func104, Tryz.ntmps104
 go_wp2_with fail
 go_ret
 exact ⟨rfl, rfl⟩
def pIx (r : TRule) (t : Tup) : Nat := (partI r.ka r.kb t r.np).toNat
structure TRead (w : World) (g pb q p : Nat) (r : TRule) (gs : Nat → Nat) : Prop where
 c0 : w.cell? ⟨g, 0, none⟩ = some (.bool r.wd)
 c1 : w.cell? ⟨g, 1, none⟩ = some (.int .i64 r.sl)
 c2 : w.cell? ⟨g, 2, none⟩ = some (.int .i64 r.gn)
 c3 : w.cell? ⟨g, 3, none⟩ = some (.int .u64 r.ka)
 c4 : w.cell? ⟨g, 4, none⟩ = some (.int .u64 r.kb)
 c5 : w.cell? ⟨g, 5, none⟩ = some (.int .i64 r.np)
 c11 : w.cell? ⟨g, 11, none⟩ = some (.slice (some ⟨pb, 0, none⟩) p q)
 ps : ∀ i, i < p → w.cell? ⟨pb, i, none⟩ = some (.pointer (some ⟨gs i, 0, none⟩))
 np : r.np = (p : Int)
 p1 : 1 ≤ p
 p16 : p ≤ 16
section
variable {w w' : World} {g pb q p n : Nat} {r : TRule} {gs : Nat → Nat} {S : Nat → TSt} {X F : Nat → Prop}
theorem TRead.chg (h : TRead w g pb q p r gs) (k : Chg F w w') (h1 : ¬ F g) (h2 : ¬ F pb) : TRead w' g pb q p r gs :=
 ⟨(cell_chg k (block_lt_of_cell h.c0) h1).trans h.c0, (cell_chg k (block_lt_of_cell h.c1) h1).trans h.c1, (cell_chg k (block_lt_of_cell h.c2) h1).trans h.c2, (cell_chg k (block_lt_of_cell h.c3) h1).trans h.c3, (cell_chg k (block_lt_of_cell h.c4) h1).trans h.c4, (cell_chg k (block_lt_of_cell h.c5) h1).trans h.c5, (cell_chg k (block_lt_of_cell h.c11) h1).trans h.c11,
  fun i hi => (cell_chg k (block_lt_of_cell (h.ps i hi)) h2).trans (h.ps i hi), h.np, h.p1, h.p16⟩
theorem TRead.call (h : TRead w g pb q p r gs) (hb : Below w.heap.size w w') : TRead w' g pb q p r gs := h.chg (F := fun _ => False) (Chg.of_below hb) (fun h => h) (fun h => h)
theorem TabsW.read {sbs : Nat → Nat} {Xs : Nat → Nat → Prop} (h : TabsW w g r p n S X pb q gs sbs Xs) : TRead w g pb q p r gs := ⟨h.blk.cell 0, h.blk.cell 1, h.blk.cell 2, h.blk.cell 3, h.blk.cell 4, h.blk.cell 5, h.blk.cell 11, h.ps, h.np, h.p1, h.p16⟩
def freeI (p : Nat) (S : Nat → TSt) (at_ : Int) : Int := if 0 ≤ at_ ∧ at_ < (p : Int) then ((S at_.toNat).L.length : Int) else 0
set_option maxRecDepth 100000 in
set_option maxHeartbeats 4000000 in
theorem tabs_free (h : TRead w g pb q p r gs) (at_ : Int) (FR : ∀ i, i < p → Calls Tryz.prog 130 #[.pointer (some ⟨gs i, 0, none⟩)] w fun e w' => e = .returned (.int .i64 (S i).L.length) ∧ w = w') : Calls Tryz.prog 115 #[.pointer (some ⟨g, 0, none⟩), .int .i64 at_] w fun e w' => e = .returned (.int .i64 (freeI p S at_)) ∧ w = w' := by
 have GV := Lib.hid (tabs_given g pb p q w h.c11 h.p1)
 have c11 := h.c11
 by_cases h0 : at_ < 0
 ·
  have x0 : decide (at_ < 0) = true := by simpa using h0
  have e : freeI p S at_ = 0 := by unfold freeI; rw [if_neg (by omega)]
  rw [e]
  clear FR h e
  go_enter Tryz.func115, Tryz.ntmps115
  go_wp2_with (go_at_call 104; (with_reducible refine GV.out.mono ?_); rintro e w2 ⟨rfl, rfl⟩)
  go_ret
  exact ⟨rfl, rfl⟩
 ·
  have x0 : decide (at_ < 0) = false := by simpa using h0
  by_cases h1 : (p : Int) ≤ at_
  ·
   have x1 : decide ((p : Int) ≤ at_) = true := by simpa using h1
   have e : freeI p S at_ = 0 := by unfold freeI; rw [if_neg (by omega)]
   rw [e]
   clear FR h e
   go_enter Tryz.func115, Tryz.ntmps115
   go_wp2_with (go_at_call 104; (with_reducible refine GV.out.mono ?_); rintro e w2 ⟨rfl, rfl⟩)
   go_ret
   exact ⟨rfl, rfl⟩
  ·
   obtain ⟨i, rfl⟩ : ∃ i : Nat, at_ = i := ⟨at_.toNat, by omega⟩
   have x1 : decide ((p : Int) ≤ (i : Int)) = false := by simpa using h1
   have hi : i < p := by omega
   have e : freeI p S (i : Int) = ((S i).L.length : Int) := by unfold freeI; rw [if_pos (by omega), Int.toNat_natCast]
   rw [e]
   have F1 := Lib.hid (FR i hi)
   have ci := h.ps i hi
   clear FR h e
   go_enter Tryz.func115, Tryz.ntmps115
   go_wp2_with (first
    | (go_at_call 104; (with_reducible refine GV.out.mono ?_); rintro e w2 ⟨rfl, rfl⟩)
    | (go_at_call 130; (with_reducible refine F1.out.mono ?_); rintro e w3 ⟨rfl, rfl⟩))
   go_ret
   exact ⟨rfl, rfl⟩
end
section
variable {w w' w1 w2 : World} {g p n pb q : Nat} {r : TRule} {S S' : Nat → TSt} {X F : Nat → Prop} {gs : Nat → Nat} {Xs : Nat → Nat → Prop}
end
section
variable {w w' : World} {g pb q p n : Nat} {r : TRule} {gs : Nat → Nat} {S : Nat → TSt} {X F : Nat → Prop}
end
end Go.Proofs.YtohapcacckapoaaGreat
