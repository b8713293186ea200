/- sip: the last word; the program's hash is the document's. -/
import Derived.Test.YtdkcjfcjckpjcaaSipM
namespace Go.Proofs.Ytdkcjfcjckpjcaa
open Go Go.RowKit Go.Deep

theorem end_last (x : ByteArray) (hx : x.size ≤ 1000000) : endWord (wn (tailB x x.size) : Int) x.size = lastW x := by
  have hlen := tail_len x x.size (Nat.le_refl _)
  have hl := wn_lt (tailB x x.size)
  have h7 : 256 ^ (tailB x x.size).length ≤ 256 ^ 7 := Nat.pow_le_pow_right (by decide) (by omega)
  have h56 : (256 : Nat) ^ 7 = 2 ^ 56 := by decide
  rw [h56] at h7
  have hl2 : wn (tailB x x.size) < 2 ^ 56 := Nat.lt_of_lt_of_le hl h7
  have hr : x.size % 256 * 2 ^ 56 < 18446744073709551616 := by omega
  have ho := or_add (wn (tailB x x.size)) (x.size % 256) 56 hl2 hr (by decide)
  have ht : (x.extract (8 * (x.size / 8)) x.size).data.toList = tailB x x.size := by
    rw [extract_list]; unfold tailB; rw [show x.size - 8 * (x.size / 8) = x.size % 8 by omega]
  have hw := wordL_wn (tailB x x.size) (by omega)
  unfold lastW endWord
  rw [ht, hw]
  have e1 := wrap_u64_id x.size (by omega)
  have e2 : IntKind.u64.wrap ((x.size : Int) * 72057594037927936) = ((x.size % 256 * 2 ^ 56 : Nat) : Int) := by
    simp [IntKind.wrap, IntKind.bits, IntKind.signed]
    omega
  rw [e1, e2, ho, show (wn (tailB x x.size) : Int) + (x.size : Int) % 256 * 72057594037927936 = ((wn (tailB x x.size) + x.size % 256 * 2 ^ 56 : Nat) : Int) by omega]
  exact (wrap_u64_id _ (by omega)).symm
theorem refhash_any (a b : Int) (x : ByteArray) (w : World) (hx : x.size ≤ 1000000) : Calls Try.prog 124 #[.agg #[.int .u64 a, .int .u64 b], .string x] w fun e w' => e = .returned (.int .u64 (sipHash a b x)) ∧ Below w.heap.size w w' := by
  have h : sipHash a b x = sipEnd (bs x (sip0 a b) (x.size / 8 + 1)) := by
    unfold sipHash
    rw [hrun_bs x _ x.size (Nat.le_refl _), end_last x hx, bs, mw, if_pos rfl]
  rw [h]
  exact refhash a b x w hx
end Go.Proofs.Ytdkcjfcjckpjcaa
