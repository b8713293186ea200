/- load: Clear on loads that were made. -/
import Derived.Test.YtkpkjpdhlmjchaaLoadF
namespace Go.Proofs.Ytkpkjpdhlmjchaa
open Go Go.RowKit Go.Deep Go.Maps Go.ChangeMaps

set_option maxRecDepth 100000 in
set_option maxHeartbeats 2000000 in
theorem load_clear (g b : Nat) (M : LM) (id : Int) (w : World) (h : LoadAt w g b M) (hk : (Lit.int .i64 id).wf = true) :
    Calls Try.prog 54 #[.pointer (some ⟨g, 0, none⟩), .int .i64 id] w fun e w' => e = .returned (.tuple #[]) ∧ LoadAt w' g b (lmDel M id) ∧ Chg (· = b) w w' := by
  have G := Lib.hid (load_given g b M w h)
  have c0 := h.1.cell 0
  simp at c0
  have hI2 := h.2
  have hB2 := h.1
  have hc2 := Chg.refl (· = b) w
  have hne : g ≠ b := h.ne
  go_enter Try.func54, Try.ntmps54
  go_wp2_with fail
  refine G.out.mono ?_
  rintro e w1 ⟨rfl, rfl⟩
  go_wp2_with (at_delete; refine wpList_delete_own _ rfl _ _ 138 3 rfl 3 int_law Try.underlying138 _ b _ (lmD M) rfl hI2 _ _ rfl (int_key hk) ?_; intro w3 hown3 ht3; rw [lm_del] at hown3; have hI3 := Imap.of hown3; have hg3 := ht3.grown; have hB3 := hB2.grown hg3 (by simp; omega); have hc3 := hc2.grown hg3 (fun k hk _ => by simpa using hk.symm))
  go_end0
  exact ⟨rfl, ⟨hB3, hI3⟩, hc3⟩
end Go.Proofs.Ytkpkjpdhlmjchaa
