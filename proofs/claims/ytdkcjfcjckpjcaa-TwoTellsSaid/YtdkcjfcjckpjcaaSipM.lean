/- sip: the program's hash is the document's. -/
import Derived.Test.YtdkcjfcjckpjcaaSipL
namespace Go.Proofs.Ytdkcjfcjckpjcaa
open Go Go.RowKit Go.Deep

def tailB (x : ByteArray) (k : Nat) : List UInt8 := (x.data.toList.drop (8 * (k / 8))).take (k % 8)
theorem lastS_wn (l : List UInt8) (c : UInt8) (h : l.length < 8) : lastS l.length (wn l : Int) c.toNat = (wn (l ++ [c]) : Int) := by
  have hc : c.toNat < 256 := c.toNat_lt
  have hl := wn_lt l
  have hp : 256 ^ l.length = 2 ^ (8 * l.length) := by rw [Nat.pow_mul]
  rw [hp] at hl
  have h2 := wn_lt (l ++ [c])
  have h6 : 256 ^ (l ++ [c]).length ≤ 256 ^ 8 := Nat.pow_le_pow_right (by decide) (by rw [List.length_append]; exact h)
  have h7 : (256 : Nat) ^ 8 = 18446744073709551616 := by decide
  rw [h7] at h6
  have h8 : wn (l ++ [c]) < 18446744073709551616 := Nat.lt_of_lt_of_le h2 h6
  rw [wn_snoc, hp] at h8
  have h9 : c.toNat * 2 ^ (8 * l.length) < 18446744073709551616 := Nat.lt_of_le_of_lt (Nat.le_add_left _ _) h8
  have h10 : 2 ^ (8 * l.length) ≤ 18446744073709551616 := by
    have : 256 ^ l.length ≤ 256 ^ 8 := Nat.pow_le_pow_right (by decide) (by omega)
    rw [h7, hp] at this
    exact this
  have e1 := wrap_u64_id c.toNat (Nat.lt_trans hc (by decide))
  have e2 := wrap_u64_id (c.toNat * 2 ^ (8 * l.length)) h9
  unfold lastS
  rw [e1, show (c.toNat : Int) * 2 ^ (8 * l.length) = ((c.toNat * 2 ^ (8 * l.length) : Nat) : Int) by simp, e2, or_add _ _ _ hl h9 h10, wn_snoc, hp]
theorem tail_len (x : ByteArray) (k : Nat) (h : k ≤ x.size) : (tailB x k).length = k % 8 := by
  unfold tailB
  have : x.data.toList.length = x.size := Array.length_toList
  rw [List.length_take, List.length_drop, this]
  omega
theorem tail_snoc (x : ByteArray) (k : Nat) (h : k < x.size) : (x.data.toList.drop (8 * (k / 8))).take (k % 8 + 1) = tailB x k ++ [x.data.toList.getD k 0] := by
  have hl : x.data.toList.length = x.size := Array.length_toList
  unfold tailB
  rw [List.take_add_one, List.getElem?_drop, show 8 * (k / 8) + k % 8 = k by omega, List.getElem?_eq_getElem (by omega), List.getD_eq_getElem?_getD, List.getElem?_eq_getElem (by omega)]
  rfl
theorem extract_list (x : ByteArray) (a b : Nat) : (x.extract a b).data.toList = (x.data.toList.drop a).take (b - a) := by
  simp [ByteArray.data_extract]
theorem hrun_bs (x : ByteArray) (s : Sip) : ∀ k, k ≤ x.size → hrun x s k = (bs x s (k / 8), (wn (tailB x k) : Int))
  | 0, _ => rfl
  | k + 1, hk => by
    have ih := hrun_bs x s k (by omega)
    have hlen := tail_len x k (by omega)
    have hsn := tail_snoc x k (by omega)
    have hw := lastS_wn (tailB x k) (x.data.toList.getD k 0) (by omega)
    rw [hlen] at hw
    show hbyte k (hrun x s k) (byteAt x k) = _
    rw [ih]
    unfold hbyte byteAt
    simp only [hw]
    by_cases h8 : (k + 1) % 8 = 0
    · rw [if_pos h8, show (k + 1) / 8 = k / 8 + 1 by omega]
      have h7 : k % 8 + 1 = 8 := by omega
      rw [h7] at hsn
      have hm : mw x (k / 8) = (wn (tailB x k ++ [x.data.toList.getD k 0]) : Int) := by
        unfold mw
        rw [if_neg (by omega), extract_list, show 8 * (k / 8) + 8 - 8 * (k / 8) = 8 by omega, hsn]
        exact wordL_wn _ (by rw [List.length_append, hlen]; simp; omega)
      have ht : tailB x (k + 1) = [] := by unfold tailB; rw [h8]; rfl
      rw [ht, bs, hm]
      rfl
    · rw [if_neg h8, show (k + 1) / 8 = k / 8 by omega]
      have ht : tailB x (k + 1) = tailB x k ++ [x.data.toList.getD k 0] := by
        rw [← hsn]; unfold tailB; rw [show (k + 1) / 8 = k / 8 by omega, show (k + 1) % 8 = k % 8 + 1 by omega]
      rw [ht]
end Go.Proofs.Ytdkcjfcjckpjcaa
