/- two: the law TwoTells, called. -/
import Derived.Test.YtkpkjpdhlmjchaaTwoH
namespace Go.Proofs.Ytkpkjpdhlmjchaa
open Go Go.RowKit Go.Deep

theorem rload_nil (w : World) : RLoadAt (w.alloc (.cells #[.slice none 0 0, .slice none 0 0] 98)) w.heap.size [] :=
  ⟨none, 0, none, 0, Blk.new w _ _, Reads.none_, Reads.none_⟩
theorem LoadAt.alloc {w : World} {g b : Nat} {M : LM} (h : LoadAt w g b M) (o : Obj) : LoadAt (w.alloc o) g b M := h.call (below_alloc (Below.refl _ _) o)
theorem RLoadAt.alloc {w : World} {g : Nat} {M : LM} (h : RLoadAt w g M) (o : Obj) : RLoadAt (w.alloc o) g M := h.call (below_alloc (Below.refl _ _) o)

end Go.Proofs.Ytkpkjpdhlmjchaa
