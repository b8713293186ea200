/- octet and its reference: Get; a text's bytes as a new row. -/
import Derived.Test.YtodbgjnccngljaaDoorAdB
import Derived.Lib.ConvBytes
import Derived.Laws.Strings3
namespace Go.Proofs.YtodbgjnccngljaaDoor
open Go Go.RowKit Go.Deep

theorem bytesWorld_below (w : World) (e : TypeId) (s : ByteArray) : Below w.heap.size w (Lib.bytesWorld w e s) :=
  ⟨rfl, rfl, rfl, by rw [Lib.bytesWorld_size]; omega, fun b hb => Lib.bytesWorld_at_old w e s b hb⟩
theorem str_size (l : List UInt8) : (ByteArray.mk l.toArray).size = l.length := rfl
/-- A piece of a text. -/
theorem slice_piece (l : List UInt8) (a b : Nat) (W : World) (h : a ≤ b) (hb : b ≤ l.length) :
    (Instr.slice 9 (.string ⟨l.toArray⟩) (some (.int .i64 (a : Int))) (some (.int .i64 (b : Int))) none).run Tryd.prog W = .ok (.string ⟨((l.drop a).take (b - a)).toArray⟩) W := by
  rw [run_slice_string W 9 ⟨l.toArray⟩ .i64 .i64 (a : Int) (b : Int) Tryd.underlying9 (by omega) (by omega) (by rw [str_size]; omega)]
  rw [Int.toNat_natCast, Int.toNat_natCast, ByteArray.extract_mk]
theorem or_byte {n c : Nat} (hn : n < 72057594037927936) (hc : c < 256) : bits BinOp.or IntKind.u64 ((n : Int) * 256) (c : Int) = ((n * 256 + c : Nat) : Int) := by
  rw [show (n : Int) * 256 = ((n * 256 : Nat) : Int) by omega, or_u64 _ _ (by omega) (by omega)]
  have := Nat.two_pow_add_eq_or_of_lt (i := 8) (b := c) (by simpa using hc) n
  rw [show 2 ^ 8 * n = n * 256 by omega] at this
  rw [this]
theorem numB_take_succ (x : List UInt8) {j : Nat} (h : j < x.length) : numB (x.take (j + 1)) = numB (x.take j) * 256 + (x.getD j 0).toNat := by
  rw [List.take_add_one, List.getElem?_eq_getElem h]
  rw [List.getD_eq_getElem?_getD, List.getElem?_eq_getElem h]
  exact numB_snoc _ _
theorem numB_take_lt (x : List UInt8) (j k : Nat) (hk : 256 ^ j ≤ k) : numB (x.take j) < k := by
  have := numB_lt (x.take j)
  have h2 : 256 ^ (x.take j).length ≤ 256 ^ j := Nat.pow_le_pow_right (by decide) (by rw [List.length_take]; omega)
  omega
theorem pow256_le {j k : Nat} (h : j ≤ k) : 256 ^ j ≤ 256 ^ k := Nat.pow_le_pow_right (by decide) h

/-- A byte of a text. -/
theorem idx_str (l : List UInt8) (i : Nat) (W : World) (h : i < l.length) :
    (Instr.index 9 (.string ⟨l.toArray⟩) (.int .i64 (i : Int))).run Tryd.prog W = .ok (.int .u8 ((l.getD i 0).toNat : Nat)) W := by
  rw [run_index_string W 9 ⟨l.toArray⟩ .i64 (i : Int) Tryd.underlying9, dif_pos ⟨by omega, by rw [str_size]; omega⟩]
  have e : (ByteArray.mk l.toArray)[(i : Int).toNat]'(by rw [str_size]; omega) = l.getD i 0 := by
    rw [List.getD_eq_getElem?_getD, List.getElem?_eq_getElem h]
    rfl
  rw [e]

set_option maxRecDepth 100000 in
set_option maxHeartbeats 4000000 in
theorem oct_get (l : List UInt8) (a k : Nat) (w : World) (h1 : 1 ≤ k) (h8 : k ≤ 8) (hl : a + k ≤ l.length) (hL : l.length ≤ 9223372036854775807) :
    Calls Tryd.prog 26 #[.string ⟨l.toArray⟩, .int .i64 a, .int .i64 k] w fun e w' => e = .returned (.tuple #[.int .u64 (numB ((l.drop a).take k) : Nat), .bool true]) ∧ Below w.heap.size w w' := by
  obtain ⟨x, hx⟩ : ∃ x, (l.drop a).take k = x := ⟨_, rfl⟩
  have hxl : x.length = k := by rw [← hx]; simp; omega
  rw [hx]
  have cv := Lib.run_convert_string_bytes (P := Tryd.prog) w 9 54 5 ⟨x.toArray⟩ Tryd.underlying9 Tryd.underlying54 Tryd.underlying5
  have hbW := bytesWorld_below w 5 ⟨x.toArray⟩
  have hcell := Lib.bytesWorld_cell w 5 ⟨x.toArray⟩
  have hsz := Lib.bytesWorld_size w 5 ⟨x.toArray⟩
  have hxs : (ByteArray.mk x.toArray).size = k := by rw [← hxl]; rfl
  rw [hxs] at hcell cv
  generalize Lib.bytesWorld w 5 ⟨x.toArray⟩ = W at *
  have s0 : ∀ W, (Instr.slice 9 (.string ⟨l.toArray⟩) (some (.int .i64 (a : Int))) (some (.int .i64 ((a : Int) + (k : Int)))) none).run Tryd.prog W = .ok (.string ⟨x.toArray⟩) W := fun W => by
    have := slice_piece l a (a + k) W (by omega) hl
    rw [show a + k - a = k by omega, hx, Int.natCast_add] at this
    exact this
  replace hx := Lib.hid hx
  have g1 : ¬ (k : Int) < 1 := by omega
  have g2 : ¬ (8 : Int) < (k : Int) := by omega
  have g3 : ¬ (l.length : Int) - (k : Int) < (a : Int) := by omega
  go_enter Tryd.func26, Tryd.ntmps26
  go_wp2_with fail
  clear cv s0 g1 g2 g3
  go_loopw [8, 37] (fun n i wr => ∃ j : Nat, j ≤ k ∧ i = .int .i64 (j : Nat) ∧ n = .int .u64 (numB (x.take j) : Nat) ∧ Below W.heap.size W wr) (fun _ i _ => k - (intOf i).toNat)
  case atStart => exact ⟨0, by omega, rfl, rfl, Below.refl _ _⟩
  case round =>
    obtain ⟨j, hj, rfl, rfl, hb⟩ := hrel
    by_cases hlt : j < k
    · have hlti : (j : Int) < (k : Int) := by omega
      have c0 : wr.cell? ⟨w.heap.size, j, none⟩ = some (.int .u8 (x.getD j 0).toNat) := (World.cell?_of_block (hb.block _ (show w.heap.size < W.heap.size by omega))).trans (hcell j hlt)
      have hs := numB_take_succ x (j := j) (by omega)
      have hnl := numB_take_lt x j 72057594037927936 (Nat.le_trans (pow256_le (show j ≤ 7 by omega)) (by decide))
      have hcl : (x.getD j 0).toNat < 256 := (x.getD j 0).toNat_lt
      obtain ⟨c, hcd⟩ : ∃ c, (x.getD j 0).toNat = c := ⟨_, rfl⟩
      obtain ⟨n, hnd⟩ : ∃ n, numB (x.take j) = n := ⟨_, rfl⟩
      rw [hcd] at c0 hs hcl
      rw [hnd] at hs hnl ⊢
      have ho := or_byte hnl hcl
      have hw1 : IntKind.u64.wrap ((n : Int) * 256) = (n : Int) * 256 := by rw [IntKind.wrap_u64]; omega
      have hw2 : IntKind.u64.wrap (c : Int) = (c : Int) := by rw [IntKind.wrap_u64]; omega
      replace hs := Lib.hid hs
      replace hcd := Lib.hid hcd
      replace hnd := Lib.hid hnd
      clear hcell
      go_wp2_with fail
      go_roundw
      case rel => exact ⟨j + 1, by omega, by go_num, by rw [hs.out]; simp, hb⟩
      case measure => simp [intOf]; omega
    · have hlti : ¬ (j : Int) < (k : Int) := by omega
      obtain rfl : j = k := by omega
      go_wp2_with fail
      go_ret2
      rw [show x.take j = x by rw [← hxl]; exact List.take_length]
      exact ⟨rfl, hbW.trans (hb.mono (by omega))⟩

set_option maxRecDepth 100000 in
set_option maxHeartbeats 4000000 in
theorem refoct_get (l : List UInt8) (a k : Nat) (w : World) (h1 : 1 ≤ k) (h8 : k ≤ 8) (hl : a + k ≤ l.length) (hL : l.length ≤ 9223372036854775807) :
    Calls Tryd.prog 27 #[.string ⟨l.toArray⟩, .int .i64 a, .int .i64 k] w fun e w' => e = .returned (.tuple #[.int .u64 (numB ((l.drop a).take k) : Nat), .bool true]) ∧ Below w.heap.size w w' := by
  obtain ⟨x, hx⟩ : ∃ x, (l.drop a).take k = x := ⟨_, rfl⟩
  have hxl : x.length = k := by rw [← hx]; simp; omega
  have hxj : ∀ j, j < k → l.getD (a + j) 0 = x.getD j 0 := by
    intro j hj
    rw [← hx, List.getD_eq_getElem?_getD, List.getD_eq_getElem?_getD, List.getElem?_take_of_lt hj, List.getElem?_drop]
  rw [hx]
  replace hx := Lib.hid hx
  have g1 : ¬ (k : Int) < 1 := by omega
  have g2 : ¬ (8 : Int) < (k : Int) := by omega
  have g3 : ¬ (l.length : Int) < (a : Int) := by omega
  have g4 : ¬ (l.length : Int) - (a : Int) < (k : Int) := by omega
  go_enter Tryd.func27, Tryd.ntmps27
  go_wp2_with fail
  clear g1 g2 g3 g4
  go_loopw [8, 9] (fun n i wr => ∃ j : Nat, j ≤ k ∧ i = .int .i64 (j : Nat) ∧ n = .int .u64 (numB (x.take j) : Nat) ∧ Below w.heap.size w wr) (fun _ i _ => k - (intOf i).toNat)
  case atStart => exact ⟨0, by omega, rfl, rfl, Below.refl _ _⟩
  case round =>
    obtain ⟨j, hj, rfl, rfl, hb⟩ := hrel
    by_cases hlt : j < k
    · have hlti : (j : Int) < (k : Int) := by omega
      have hi0 := idx_str l (a + j) wr (by omega)
      rw [hxj j hlt, Int.natCast_add] at hi0
      have hs := numB_take_succ x (j := j) (by omega)
      have hnl := numB_take_lt x j 72057594037927936 (Nat.le_trans (pow256_le (show j ≤ 7 by omega)) (by decide))
      have hcl : (x.getD j 0).toNat < 256 := (x.getD j 0).toNat_lt
      obtain ⟨c, hcd⟩ : ∃ c, (x.getD j 0).toNat = c := ⟨_, rfl⟩
      obtain ⟨n, hnd⟩ : ∃ n, numB (x.take j) = n := ⟨_, rfl⟩
      rw [hcd] at hi0 hs hcl
      rw [hnd] at hs hnl ⊢
      have hw1 : IntKind.u64.wrap ((n : Int) * 256) = (n : Int) * 256 := by rw [IntKind.wrap_u64]; omega
      have hw2 : IntKind.u64.wrap (c : Int) = (c : Int) := by rw [IntKind.wrap_u64]; omega
      have hw3 : IntKind.u64.wrap ((n : Int) * 256 + (c : Int)) = (n : Int) * 256 + (c : Int) := by rw [IntKind.wrap_u64]; omega
      replace hs := Lib.hid hs
      replace hcd := Lib.hid hcd
      replace hnd := Lib.hid hnd
      clear hxj
      go_wp2_with fail
      go_roundw
      case rel => exact ⟨j + 1, by omega, by go_num, by rw [hs.out]; simp, hb⟩
      case measure => simp [intOf]; omega
    · have hlti : ¬ (j : Int) < (k : Int) := by omega
      obtain rfl : j = k := by omega
      go_wp2_with fail
      go_ret2
      rw [show x.take j = x by rw [← hxl]; exact List.take_length]
      exact ⟨rfl, hb⟩
end Go.Proofs.YtodbgjnccngljaaDoor
