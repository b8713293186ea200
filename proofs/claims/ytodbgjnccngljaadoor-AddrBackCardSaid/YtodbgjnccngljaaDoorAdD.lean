/- octet and its reference: Hex. -/
import Derived.Test.YtodbgjnccngljaaDoorAdC
import Derived.Test.YtodbgjnccngljaaDoorStrB
import Derived.Laws.BitsAllLaws
namespace Go.Proofs.YtodbgjnccngljaaDoor
open Go Go.RowKit Go.Deep

def digs : List UInt8 := [48, 49, 50, 51, 52, 53, 54, 55, 56, 57, 97, 98, 99, 100, 101, 102]
theorem digs_fin : ∀ n : Fin 16, (digs.getD n.val 0) = hexd n.val := by decide +kernel
theorem digs_at (n : Nat) (h : n < 16) (hs : n < (ByteArray.mk #[48, 49, 50, 51, 52, 53, 54, 55, 56, 57, 97, 98, 99, 100, 101, 102]).size) :
    (ByteArray.mk #[48, 49, 50, 51, 52, 53, 54, 55, 56, 57, 97, 98, 99, 100, 101, 102])[n]'hs = hexd n := by
  rw [← digs_fin ⟨n, h⟩, List.getD_eq_getElem?_getD, List.getElem?_eq_getElem (show n < digs.length from h)]
  rfl
theorem and_15 (c : Nat) (h : c < 256) : bits BinOp.and IntKind.u8 (c : Int) 15 = (c : Int) % 16 := by
  have := u8_and_nat c 15 h (by decide)
  rw [show (15 : Int) = ((15 : Nat) : Int) from rfl, this, show (15 : Nat) = 2 ^ 4 - 1 from rfl, Nat.and_two_pow_sub_one_eq_mod]
  rfl
theorem hexL_take_succ (l : List UInt8) {j : Nat} (h : j < l.length) : hexL (l.take (j + 1)) = hexL (l.take j) ++ [hexd ((l.getD j 0).toNat / 16)] ++ [hexd ((l.getD j 0).toNat % 16)] := by
  rw [List.take_add_one, List.getElem?_eq_getElem h]
  unfold hexL
  rw [List.flatMap_append]
  rw [List.getD_eq_getElem?_getD, List.getElem?_eq_getElem h]
  simp
theorem hexL_take_len (l : List UInt8) (j : Nat) (h : j ≤ l.length) : (hexL (l.take j)).length = 2 * j := by
  rw [hexL_len, List.length_take, Nat.min_eq_left h]

set_option maxRecDepth 100000 in
set_option maxHeartbeats 4000000 in
theorem oct_hex (l : List UInt8) (w : World) (hL : l.length ≤ 1000000000) :
    Calls Tryd.prog 38 #[.string ⟨l.toArray⟩] w fun e w' => e = .returned (.string ⟨(hexL l).toArray⟩) ∧ Below w.heap.size w w' := by
  obtain ⟨w1, hw1⟩ : ∃ w1, w.alloc (.cells #[.pointer none, .slice none 0 0] 71) = w1 := ⟨_, rfl⟩
  have hb1 : Below w.heap.size w w1 := by rw [← hw1]; exact (Below.refl _ _).alloc (Nat.le_refl _) _
  have hs1 : w1.heap.size = w.heap.size + 1 := by rw [← hw1]; simp
  have cv := Lib.run_convert_string_bytes (P := Tryd.prog) w1 9 54 5 ⟨l.toArray⟩ Tryd.underlying9 Tryd.underlying54 Tryd.underlying5
  have hbW := bytesWorld_below w1 5 ⟨l.toArray⟩
  have hcell := Lib.bytesWorld_cell w1 5 ⟨l.toArray⟩
  have hsz := Lib.bytesWorld_size w1 5 ⟨l.toArray⟩
  rw [str_size] at hcell cv
  generalize Lib.bytesWorld w1 5 ⟨l.toArray⟩ = W at *
  have hB0 : Bld w.heap.size W.heap.size [] W := Bld.fresh w W.heap.size (by omega) W (by rw [hw1, ← hs1]; exact hbW) (Nat.le_refl _)
  have hbwW : Below w.heap.size w W := hb1.trans (hbW.mono (by omega))
  go_enter Tryd.func38, Tryd.ntmps38
  go_wp2_with fail
  clear cv hw1
  rw [hs1] at hcell hsz
  go_loopw [9] (fun i wr => ∃ j : Nat, j ≤ l.length ∧ i = .int .i64 (j : Nat) ∧ Bld w.heap.size W.heap.size (hexL (l.take j)) wr ∧ Chg (FB w.heap.size W.heap.size) W wr) (fun i _ => l.length - (intOf i).toNat)
  case atStart => exact ⟨0, by omega, rfl, hB0, Chg.refl _ _⟩
  case round =>
    obtain ⟨j, hj, rfl, hB, hc⟩ := hrel
    by_cases hlt : j < l.length
    · have hlti : (j : Int) < (l.length : Int) := by omega
      have c0 : wr.cell? ⟨w.heap.size + 1, j, none⟩ = some (.int .u8 (l.getD j 0).toNat) := (cell_chg hc (show w.heap.size + 1 < W.heap.size by omega) (by unfold FB; show ¬ (w.heap.size + 1 = _ ∨ _ ≤ w.heap.size + 1); omega)).trans (hcell j hlt)
      have hs := hexL_take_succ l hlt
      have hl0 := hexL_take_len l j (by omega)
      have hcl : (l.getD j 0).toNat < 256 := (l.getD j 0).toNat_lt
      obtain ⟨c, hcd⟩ : ∃ c, (l.getD j 0).toNat = c := ⟨_, rfl⟩
      obtain ⟨p, hpd⟩ : ∃ p, hexL (l.take j) = p := ⟨_, rfl⟩
      rw [hcd] at c0 hs hcl
      rw [hpd] at hs hl0 hB
      have K1 := Lib.hid (bld_byte w.heap.size W.heap.size p (hexd (c / 16)) · · (by omega))
      have K2 := Lib.hid (bld_byte w.heap.size W.heap.size (p ++ [hexd (c / 16)]) (hexd (c % 16)) · · (by simp; omega))
      have i1 := Lib.hid (digs_at (c / 16) (by omega))
      have i2 := Lib.hid (digs_at (c % 16) (by omega))
      have ia := and_15 c hcl
      
      replace hs := Lib.hid hs
      replace hcd := Lib.hid hcd
      replace hpd := Lib.hid hpd
      clear hcell
      go_wp2_with fail
      rw [i1.out]
      refine (K1.out _ hB).mono ?_
      rintro e w2 ⟨rfl, hB2, hc2⟩
      go_wp2_with fail
      rw [i2.out]
      refine (K2.out _ hB2).mono ?_
      rintro e w3 ⟨rfl, hB3, hc3⟩
      go_wp2_with fail
      go_roundw
      case rel => exact ⟨j + 1, by omega, by go_num, by rw [hs.out]; exact hB3, (hc.trans hc2 (fun _ _ h => h)).trans hc3 (fun _ _ h => h)⟩
      case measure => simp [intOf]; omega
    · have hlti : ¬ (j : Int) < (l.length : Int) := by omega
      obtain rfl : j = l.length := by omega
      rw [List.take_length] at hB
      go_wp2_with (go_at_call 44; refine (bld_text _ _ _ _ hB).mono ?_; rintro e w2 ⟨rfl, hb2⟩)
      go_ret
      exact ⟨rfl, hbwW.trans ((hc.below (fun b hb h => by rcases h with h | h <;> omega) (by omega)).trans hb2)⟩
end Go.Proofs.YtodbgjnccngljaaDoor
