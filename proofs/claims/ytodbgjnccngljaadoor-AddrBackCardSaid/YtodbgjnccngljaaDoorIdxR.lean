/- strings.IndexRune of the hexadecimal digits at a rune beyond ASCII. -/
import Derived.Test.YtodbgjnccngljaaDoorAdD
import Derived.Lib.OthersKept
import Derived.Lib.IndexLaws
import Derived.Laws.Runes
namespace Go.Proofs.YtodbgjnccngljaaDoor
open Go Go.RowKit Go.Deep

theorem valid_rune (r : Int) (w : World) : Calls Tryd.prog 80 #[.int .i32 r] w fun e w' => e = .returned (.bool (Utf8.valid r)) ∧ w' = w := by
  unfold Utf8.valid
  by_cases h1 : 0 ≤ r
  · by_cases h2 : r < 55296
    · have e : (decide (0 ≤ r) && decide (r < 55296) || decide (57344 ≤ r) && decide (r ≤ 1114111)) = true := by simp [h1, h2]
      rw [e]; replace e := Lib.hid e
      go_enter Tryd.func80, Tryd.ntmps80
      go_wp2_with fail
      go_ret
      exact ⟨rfl, rfl⟩
    · by_cases h3 : 57343 < r
      · by_cases h4 : r ≤ 1114111
        · have e : (decide (0 ≤ r) && decide (r < 55296) || decide (57344 ≤ r) && decide (r ≤ 1114111)) = true := by simp; right; omega
          rw [e]; replace e := Lib.hid e
          go_enter Tryd.func80, Tryd.ntmps80
          go_wp2_with fail
          go_ret
          exact ⟨rfl, rfl⟩
        · have e : (decide (0 ≤ r) && decide (r < 55296) || decide (57344 ≤ r) && decide (r ≤ 1114111)) = false := by simp; omega
          rw [e]; replace e := Lib.hid e
          go_enter Tryd.func80, Tryd.ntmps80
          go_wp2_with fail
          go_ret
          exact ⟨rfl, rfl⟩
      · have e : (decide (0 ≤ r) && decide (r < 55296) || decide (57344 ≤ r) && decide (r ≤ 1114111)) = false := by simp; omega
        rw [e]; replace e := Lib.hid e
        go_enter Tryd.func80, Tryd.ntmps80
        go_wp2_with fail
        go_ret
        exact ⟨rfl, rfl⟩
  · have e : (decide (0 ≤ r) && decide (r < 55296) || decide (57344 ≤ r) && decide (r ≤ 1114111)) = false := by simp; omega
    rw [e]; replace e := Lib.hid e
    have h3 : ¬ 57343 < r := by omega
    go_enter Tryd.func80, Tryd.ntmps80
    go_wp2_with fail
    go_ret
    exact ⟨rfl, rfl⟩

def digB : ByteArray := ⟨#[48, 49, 50, 51, 52, 53, 54, 55, 56, 57, 97, 98, 99, 100, 101, 102]⟩
theorem digB_size : digB.size = 16 := rfl
theorem digB_low : ∀ i : Fin 16, (digB[i.val]'(by rw [digB_size]; exact i.isLt)).toNat < 128 := by decide +kernel
theorem digB_decode (pos : Nat) (h : pos < 16) : Utf8.decode digB pos = ((digB[pos]'(by rw [digB_size]; exact h)).toNat, 1) := decode_ascii digB pos (by rw [digB_size]; exact h) (digB_low ⟨pos, h⟩)

set_option maxRecDepth 100000 in
set_option maxHeartbeats 4000000 in
theorem idx_error (w : World) : Calls Tryd.prog 60 #[.string digB, .int .i32 65533] w fun e w' => e = .returned (.int .i64 (-1)) ∧ Below w.heap.size w w' := by
  have hd : digB = ⟨#[48, 49, 50, 51, 52, 53, 54, 55, 56, 57, 97, 98, 99, 100, 101, 102]⟩ := rfl
  generalize hD : digB = D at *
  replace hd := Lib.hid hd
  have hsz : D.size = 16 := by rw [← hD]; rfl
  have hdec : ∀ pos, pos < 16 → ∃ c : Nat, c < 128 ∧ Utf8.decode D pos = (c, 1) := by
    intro pos hp
    rw [← hD]
    exact ⟨_, digB_low ⟨pos, hp⟩, digB_decode pos hp⟩
  replace hD := Lib.hid hD
  go_enter Tryd.func60, Tryd.ntmps60
  go_wp2_with fail
  go_loopw [] (fun wr => ∃ pos : Nat, pos ≤ 16 ∧ wr.heap[w.heap.size]? = some (.stringIter D pos) ∧ Below w.heap.size w wr) (fun wr => 16 - wr.iterPos w.heap.size)
  case atStart => exact ⟨0, by omega, World.iter_heap w D 0, (Below.refl _ _).alloc (Nat.le_refl _) _⟩
  case round =>
    obtain ⟨pos, hp, hit, hb⟩ := hrel
    have hip : wr.iterPos w.heap.size = pos := by simp [World.iterPos, hit]
    by_cases hlt : pos < 16
    · obtain ⟨c, hc, hcd⟩ := hdec pos hlt
      have hnx : ∀ ty, (Instr.next (.pointer (some ⟨w.heap.size, 0, none⟩)) true ty).run Tryd.prog wr = .ok (.tuple #[.bool true, .int .i64 pos, .int .i32 (c : Int)]) (wr.iterAt w.heap.size D (pos + 1)) := fun ty => by
        rw [Lib.run_next_any_at wr w.heap.size D pos ty hit (by omega), hcd]
      have hit2 := Lib.iterAt_heap wr w.heap.size D pos (pos + 1) hit
      have hb2 := Lib.below_iterAt hb (k := w.heap.size) (by omega) D (pos + 1)
      have hne : ((c : Int) == 65533) = false := by rw [beq_eq_false_iff_ne]; omega
      generalize wr.iterAt w.heap.size D (pos + 1) = w2 at *
      have hip2 : w2.iterPos w.heap.size = pos + 1 := by simp [World.iterPos, hit2]
      clear hdec hcd hit
      replace hip := Lib.hid hip
      replace hip2 := Lib.hid hip2
      go_wp2_with fail
      go_roundw
      case rel => exact ⟨pos + 1, by omega, hit2, hb2⟩
      case measure => rw [hip.out, hip2.out]; omega
    · have hnx : ∀ ty, (Instr.next (.pointer (some ⟨w.heap.size, 0, none⟩)) true ty).run Tryd.prog wr = .ok (.tuple #[.bool false]) wr := fun ty => Lib.run_next_end_at wr w.heap.size D pos ty hit (by omega)
      clear hdec hit
      replace hip := Lib.hid hip
      go_wp2_with fail
      go_ret
      exact ⟨rfl, hb⟩

set_option maxRecDepth 100000 in
set_option maxHeartbeats 4000000 in
theorem idx_rune (r : Int) (w : World) (h1 : 128 ≤ r) : Calls Tryd.prog 60 #[.string digB, .int .i32 r] w fun e w' => e = .returned (.int .i64 (-1)) ∧ Below w.heap.size w w' := by
  by_cases he : r = 65533
  · subst he; exact idx_error w
  have hne : (r == 65533) = false := by rw [beq_eq_false_iff_ne]; exact he
  have hlo : ¬ r < 128 := by omega
  have h0 : 0 ≤ r := by omega
  have K := Lib.hid (valid_rune r)
  have hsz : digB.size = 16 := rfl
  by_cases hv : Utf8.valid r = true
  · obtain ⟨e1, e2, e3⟩ := encode_facts r hv h1
    rw [hv] at K
    obtain ⟨E, hE⟩ : ∃ E, Utf8.encode r = E := ⟨_, rfl⟩
    rw [hE] at e1 e2 e3
    have hcv : ∀ W, (convert 21 9 (.int .i32 r)).run Tryd.prog W = .ok (.string E) W := fun W => by
      rw [run_convert_int_string W 21 9 .i32 r (by rw [Tryd.underlying21]; rfl) Tryd.underlying9, hE]
    obtain ⟨m, hm⟩ : ∃ m, E.size = m + 1 := ⟨E.size - 1, by omega⟩
    have hm1 : 1 ≤ m := by omega
    have hm3 : m ≤ 3 := by omega
    obtain ⟨x, hx⟩ : ∃ x : UInt8, digB[m]'(by rw [digB_size]; omega) = x := ⟨_, rfl⟩
    obtain ⟨y, hy⟩ : ∃ y : UInt8, E[m]'(by omega) = y := ⟨_, rfl⟩
    have hx1 : x.toNat < 128 := by rw [← hx]; exact digB_low ⟨m, by omega⟩
    have hy1 : 128 ≤ y.toNat := by
      have := e3 (by omega)
      simp only [hm, Nat.add_sub_cancel] at this
      rw [hy] at this
      exact this
    have i1 : ∀ W, (Instr.index 9 (.string digB) (.int .i64 (m : Int))).run Tryd.prog W = .ok (.int .u8 (x.toNat : Nat)) W := fun W => by
      rw [run_index_string W 9 digB .i64 (m : Int) Tryd.underlying9, dif_pos ⟨by omega, by rw [digB_size]; omega⟩]
      simp only [Int.toNat_natCast, hx]
    have i2 : ∀ W, (Instr.index 9 (.string E) (.int .i64 (m : Int))).run Tryd.prog W = .ok (.int .u8 (y.toNat : Nat)) W := fun W => by
      rw [run_index_string W 9 E .i64 (m : Int) Tryd.underlying9, dif_pos ⟨by omega, by omega⟩]
      simp only [Int.toNat_natCast, hy]
    obtain ⟨X, hX⟩ : ∃ X, digB.extract (m + 1) 16 = X := ⟨_, rfl⟩
    have i3 : ∀ W, (Instr.slice 9 (.string digB) (some (.int .i64 ((m : Int) + 1))) none none).run Tryd.prog W = .ok (.string X) W := fun W => by
      rw [run_slice_string_from_if W 9 digB .i64 ((m : Int) + 1) Tryd.underlying9, if_pos ⟨by omega, by rw [digB_size]; omega⟩, ← hX]
      rfl
    have hnone : Lib.indexByte X.data.toList y = -1 := by
      rcases Int.lt_or_eq_of_le (Lib.indexByte_ge X.data.toList y) with h | h
      · exfalso
        obtain ⟨o, ho⟩ : ∃ o : Nat, Lib.indexByte X.data.toList y = o := ⟨(Lib.indexByte X.data.toList y).toNat, by omega⟩
        have hmem := List.mem_of_getElem? (Lib.indexByte_some ho).1
        rw [← hX, ByteArray.data_extract] at hmem
        have hmem2 : y ∈ digB.data.toList := by
          simp at hmem
          exact List.mem_of_mem_drop (List.mem_of_mem_take hmem) |> fun h => by simpa using h
        have hall : ∀ z ∈ digB.data.toList, z.toNat < 128 := by decide +kernel
        have := hall y hmem2
        omega
      · exact h.symm
    have K3 := fun W => Tryd.strings_IndexByte X (y.toNat : Nat) W
    have hyy : ((y.toNat : Int)).toNat.toUInt8 = y := by simp
    rw [hyy, hnone] at K3
    replace K3 := Lib.hid K3
    have hneq : ((x.toNat : Int) == (y.toNat : Int)) = false := by rw [beq_eq_false_iff_ne]; omega
    have hm16 : (m : Int) < 16 := by omega
    clear e1 e2 e3 hX hyy hnone hx hy
    generalize x.toNat = xn at *
    generalize y.toNat = yn at *
    generalize digB = D at *
    replace hv := Lib.hid hv
    replace hE := Lib.hid hE
    go_enter Tryd.func60, Tryd.ntmps60
    go_wp2_with (go_at_call 80; refine (K.out _).mono ?_; rintro e w5 ⟨rfl, rfl⟩)
    go_step3
    go_wp2_with fail
    go_loopw [9, 10] (fun i f wr => i = .int .i64 (m : Nat) ∧ f = .int .i64 0 ∧ wr = w5) (fun _ _ _ => 0)
    case atStart => exact ⟨rfl, rfl, rfl⟩
    case round =>
      obtain ⟨rfl, rfl, rfl⟩ := hrel
      have hwm : IntKind.i64.wrap ((m : Int) + 1) = (m : Int) + 1 := by rw [IntKind.wrap_i64]; omega
      go_wp2_with fail
      go_step3
      go_wp2_with fail
      go_region
      have hbd : Below wr.heap.size wr wr.drew := (Below.refl _ _).drew
      generalize wr.drew = w6 at *
      go_wp2_with fail
      go_region_held3 (fun W => Below wr.heap.size wr W) ((first | assumption | exact hbd.drew)) (first | (go_at_call 79; (with_reducible refine (K3.out _).mono ?_); rintro e w7 ⟨rfl, rfl⟩))
      all_goals
        go_wp2_with fail
        simp (zetaDelta := true) only [Exit.inBlock, Exit.noGoto_ret, Exit.then]
        go_ret
        exact ⟨rfl, by assumption⟩
  · have hv' : Utf8.valid r = false := by simpa using hv
    rw [hv'] at K
    generalize digB = D at *
    replace hv := Lib.hid hv
    replace hv' := Lib.hid hv'
    go_enter Tryd.func60, Tryd.ntmps60
    go_wp2_with (go_at_call 80; refine (K.out _).mono ?_; rintro e w5 ⟨rfl, rfl⟩)
    go_ret
    exact ⟨rfl, Below.refl _ _⟩
end Go.Proofs.YtodbgjnccngljaaDoor
