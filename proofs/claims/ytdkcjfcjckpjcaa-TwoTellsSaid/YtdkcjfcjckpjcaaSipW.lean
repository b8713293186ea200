/- cloakroomref12: word. -/
import Derived.Test.YtdkcjfcjckpjcaaSipS
namespace Go.Proofs.Ytdkcjfcjckpjcaa
open Go Go.RowKit Go.Deep

def wordL : List UInt8 → Int
  | [] => 0
  | c :: l => addU (IntKind.u64.wrap (wordL l * 256)) (IntKind.u64.wrap (c.toNat : Int))

set_option maxHeartbeats 1000000 in
theorem refword (x : ByteArray) (w : World) (hx : x.size ≤ 1000000) : Calls Try.prog 140 #[.string x] w fun e w' => e = .returned (.int .u64 (wordL x.data.toList)) ∧ w = w' := by
  go_enter Try.func140, Try.ntmps140
  go_wp2_with fail
  go_loop [3, 4] (fun m i => ∃ j : Nat, j ≤ x.size ∧ i = .int .i64 ((j : Int) - 1) ∧ m = .int .u64 (wordL (x.data.toList.drop j))) (fun _ i => (intOf i + 1).toNat)
  case atStart =>
    have : x.data.toList.drop x.size = [] := List.drop_of_length_le (by rw [Array.length_toList]; exact Nat.le_refl _)
    exact ⟨x.size, by omega, by go_num, by rw [this]; rfl⟩
  case round =>
    obtain ⟨j, hj, rfl, rfl⟩ := hrel
    rcases Nat.eq_zero_or_pos j with rfl | hpos
    · go_wp2_with fail
      go_ret
      exact ⟨rfl, rfl⟩
    · obtain ⟨i, rfl⟩ : ∃ i, j = i + 1 := ⟨j - 1, by omega⟩
      have hge : (0 : Int) ≤ ((i + 1 : Nat) : Int) - 1 := by omega
      have hlt : i < x.data.toList.length := by rw [Array.length_toList]; exact hj
      have hd : wordL (x.data.toList.drop i) = addU (IntKind.u64.wrap (wordL (x.data.toList.drop (i + 1)) * 256)) (IntKind.u64.wrap ((x.data.toList[i]).toNat : Int)) := by
        rw [List.drop_eq_getElem_cons hlt]; rfl
      obtain ⟨m, hm⟩ : ∃ m, wordL (x.data.toList.drop (i + 1)) = m := ⟨_, rfl⟩
      rw [hm] at hd ⊢
      replace hd := Lib.hid hd
      clear hm
      go_wp2_with fail
      go_round
      case rel => exact ⟨i, by omega, rfl, by rw [hd.out]; rfl⟩
      case measure => simp [intOf]
end Go.Proofs.Ytdkcjfcjckpjcaa
