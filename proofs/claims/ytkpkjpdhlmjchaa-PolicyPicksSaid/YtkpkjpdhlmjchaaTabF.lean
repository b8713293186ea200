/- maglev: a table whose own places lie from a block on. -/
import Derived.Test.YtkpkjpdhlmjchaaMagN
namespace Go.Proofs.Ytkpkjpdhlmjchaa
open Go Go.RowKit Go.Deep

def TabF (w : World) (b g : Nat) (ka kb : Int) (pl : List Int) : Prop :=
  ∃ gp, b ≤ gp ∧ Blk w g 167 #[.int .u64 ka, .int .u64 kb, .slice (some ⟨gp, 0, none⟩) pl.length pl.length] ∧ PlAt w gp pl.length pl
theorem TabF.tab {w : World} {b g : Nat} {ka kb : Int} {pl : List Int} (h : TabF w b g ka kb pl) : TabAt w g ka kb pl := by
  obtain ⟨gp, -, h1, h2⟩ := h
  exact ⟨gp, h1, h2⟩
theorem TabF.more {w : World} {b b' g : Nat} {ka kb : Int} {pl : List Int} (h : TabF w b g ka kb pl) (hb : b' ≤ b) : TabF w b' g ka kb pl := by
  obtain ⟨gp, h0, h1, h2⟩ := h
  exact ⟨gp, by omega, h1, h2⟩
theorem TabF.keep {w w' : World} {b g : Nat} {ka kb : Int} {pl : List Int} (h : TabF w b g ka kb pl) (hb : Below w.heap.size w w') : TabF w' b g ka kb pl := by
  obtain ⟨gp, h0, h1, h2⟩ := h
  exact ⟨gp, h0, h1.call hb, h2.of_block (hb.block gp h2.lt)⟩
theorem TabF.far_ch {w : World} {b g gT : Nat} {ka kb : Int} {pl : List Int} {t : TypeId} {cs : Array Value} (h : TabF w b gT ka kb pl) (hT : Blk w g t cs) (h1 : 167 ≠ t) (h2 : 3 ≠ t) (i : Nat) (u : Value) : TabF (w.setCell ⟨g, i, none⟩ u) b gT ka kb pl := by
  obtain ⟨gp, h0, k1, k2⟩ := h
  refine ⟨gp, h0, k1.far (Blk.ne_ k1 hT h1) u, k2.setOther ?_ u⟩
  obtain ⟨c, hc, -⟩ := k2
  exact Blk.ne_ (t := 3) (cs := c) hc hT h2
end Go.Proofs.Ytkpkjpdhlmjchaa
