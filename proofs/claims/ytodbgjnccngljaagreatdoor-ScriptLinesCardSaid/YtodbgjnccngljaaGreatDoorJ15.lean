/- octet and its reference: Hex. strings.IndexRune of the hexadecimal digits at a rune beyond ASCII. octet.Unhex. addr: Get, Less. The reference's addresses: Get, Less, Digits. What a law's world holds at start (Go's table of powers of ten, bytealg's bound); strconv.Itoa, strings.Split, strings.Join by lists of bytes. addr: part, group. addr: joined, Read. addr: Read. addr: Text. Plain .. -/
import Derived.Test.YtodbgjnccngljaaGreatDoorJ13
import Derived.Test.YtodbgjnccngljaaGreatDoorJ14
import Derived.Laws.BitsAllLaws
import Derived.Lib.OthersKept
import Derived.Lib.IndexLaws
import Derived.Laws.Runes
import Derived.Deep.Cut
import Derived.Lib.SplitLaws
import Derived.Shelf.Abstract
namespace Go.Proofs.YtodbgjnccngljaaGreatDoor
open Go Go.RowKit Go.Deep
def digs : List UInt8 := [48, 49, 50, 51, 52, 53, 54, 55, 56, 57, 97, 98, 99, 100, 101, 102]
theorem digs_fin : ∀ n : Fin 16, (digs.getD n.val 0) = hexd n.val := by decide +kernel
theorem digs_at (n : Nat) (h : n < 16) (hs : n < (ByteArray.mk #[48, 49, 50, 51, 52, 53, 54, 55, 56, 57, 97, 98, 99, 100, 101, 102]).size) :
  (ByteArray.mk #[48, 49, 50, 51, 52, 53, 54, 55, 56, 57, 97, 98, 99, 100, 101, 102])[n]'hs = hexd n := by
 rw [← digs_fin ⟨n, h⟩, List.getD_eq_getElem?_getD, List.getElem?_eq_getElem (show n < digs.length from h)]
 rfl
theorem and_15 (c : Nat) (h : c < 256) : bits BinOp.and IntKind.u8 (c : Int) 15 = (c : Int) % 16 := by
 have := u8_and_nat c 15 h (by decide)
 rw [show (15 : Int) = ((15 : Nat) : Int) from rfl, this, show (15 : Nat) = 2 ^ 4 - 1 from rfl, Nat.and_two_pow_sub_one_eq_mod]
 rfl
theorem hexL_take_succ (l : List UInt8) {j : Nat} (h : j < l.length) : hexL (l.take (j + 1)) = hexL (l.take j) ++ [hexd ((l.getD j 0).toNat / 16)] ++ [hexd ((l.getD j 0).toNat % 16)] := by
 rw [List.take_add_one, List.getElem?_eq_getElem h]
 unfold hexL
 rw [List.flatMap_append]
 rw [List.getD_eq_getElem?_getD, List.getElem?_eq_getElem h]
 simp
theorem hexL_take_len (l : List UInt8) (j : Nat) (h : j ≤ l.length) : (hexL (l.take j)).length = 2 * j := by
 rw [hexL_len, List.length_take, Nat.min_eq_left h]
set_option maxRecDepth 100000 in
set_option maxHeartbeats 4000000 in
theorem oct_hex (l : List UInt8) (w : World) (hL : l.length ≤ 1000000000) :
  Calls Tryz.prog 70 #[.string ⟨l.toArray⟩] w fun e w' => e = .returned (.string ⟨(hexL l).toArray⟩) ∧ Below w.heap.size w w' := by
 obtain ⟨w1, hw1⟩ : ∃ w1, w.alloc (.cells #[.pointer none, .slice none 0 0] 84) = w1 := ⟨_, rfl⟩
 have hb1 : Below w.heap.size w w1 := by rw [← hw1]; exact (Below.refl _ _).alloc (Nat.le_refl _) _
 have hs1 : w1.heap.size = w.heap.size + 1 := by rw [← hw1]; simp
 have cv := Lib.run_convert_string_bytes (P := Tryz.prog) w1 9 82 5 ⟨l.toArray⟩ Tryz.underlying9 Tryz.underlying82 Tryz.underlying5
 have hbW := bytesWorld_below w1 5 ⟨l.toArray⟩
 have hcell := Lib.bytesWorld_cell w1 5 ⟨l.toArray⟩
 have hsz := Lib.bytesWorld_size w1 5 ⟨l.toArray⟩
 rw [str_size] at hcell cv
 generalize Lib.bytesWorld w1 5 ⟨l.toArray⟩ = W at *
 have hB0 : Bld w.heap.size W.heap.size [] W := Bld.fresh w W.heap.size (by omega) W (by rw [hw1, ← hs1]; exact hbW) (Nat.le_refl _)
 have hbwW : Below w.heap.size w W := hb1.trans (hbW.mono (by omega))
 go_enter Tryz.func70, Tryz.ntmps70
 go_wp2_with fail
 clear cv hw1
 rw [hs1] at hcell hsz
 go_loopw [9] (fun i wr => ∃ j : Nat, j ≤ l.length ∧ i = .int .i64 (j : Nat) ∧ Bld w.heap.size W.heap.size (hexL (l.take j)) wr ∧ Chg (FB w.heap.size W.heap.size) W wr) (fun i _ => l.length - (intOf i).toNat)
 case atStart => exact ⟨0, by omega, rfl, hB0, Chg.refl _ _⟩
 case round =>
  obtain ⟨j, hj, rfl, hB, hc⟩ := hrel
  by_cases hlt : j < l.length
  ·
   have hlti : (j : Int) < (l.length : Int) := by omega
   have c0 : wr.cell? ⟨w.heap.size + 1, j, none⟩ = some (.int .u8 (l.getD j 0).toNat) := (cell_chg hc (show w.heap.size + 1 < W.heap.size by omega) (by unfold FB; show ¬ (w.heap.size + 1 = _ ∨ _ ≤ w.heap.size + 1); omega)).trans (hcell j hlt)
   have hs := hexL_take_succ l hlt
   have hl0 := hexL_take_len l j (by omega)
   have hcl : (l.getD j 0).toNat < 256 := (l.getD j 0).toNat_lt
   obtain ⟨c, hcd⟩ : ∃ c, (l.getD j 0).toNat = c := ⟨_, rfl⟩
   obtain ⟨p, hpd⟩ : ∃ p, hexL (l.take j) = p := ⟨_, rfl⟩
   rw [hcd] at c0 hs hcl
   rw [hpd] at hs hl0 hB
   have K1 := Lib.hid (bld_byte w.heap.size W.heap.size p (hexd (c / 16)) · · (by omega))
   have K2 := Lib.hid (bld_byte w.heap.size W.heap.size (p ++ [hexd (c / 16)]) (hexd (c % 16)) · · (by simp; omega))
   have i1 := Lib.hid (digs_at (c / 16) (by omega))
   have i2 := Lib.hid (digs_at (c % 16) (by omega))
   have ia := and_15 c hcl
   replace hs := Lib.hid hs
   replace hcd := Lib.hid hcd
   replace hpd := Lib.hid hpd
   clear hcell
   go_wp2_with fail
   rw [i1.out]
   refine (K1.out _ hB).mono ?_
   rintro e w2 ⟨rfl, hB2, hc2⟩
   go_wp2_with fail
   rw [i2.out]
   refine (K2.out _ hB2).mono ?_
   rintro e w3 ⟨rfl, hB3, hc3⟩
   go_wp2_with fail
   go_roundw
   case rel => exact ⟨j + 1, by omega, by go_num, by rw [hs.out]; exact hB3, (hc.trans hc2 (fun _ _ h => h)).trans hc3 (fun _ _ h => h)⟩
   case measure => simp [intOf]; omega
  ·
   have hlti : ¬ (j : Int) < (l.length : Int) := by omega
   obtain rfl : j = l.length := by omega
   rw [List.take_length] at hB
   go_wp2_with (go_at_call 44; refine (bld_text _ _ _ _ hB).mono ?_; rintro e w2 ⟨rfl, hb2⟩)
   go_ret
   exact ⟨rfl, hbwW.trans ((hc.below (fun b hb h => by rcases h with h | h <;> omega) (by omega)).trans hb2)⟩
theorem valid_rune (r : Int) (w : World) : Calls Tryz.prog 109 #[.int .i32 r] w fun e w' => e = .returned (.bool (Utf8.valid r)) ∧ w' = w := by
 unfold Utf8.valid
 by_cases h1 : 0 ≤ r
 ·
  by_cases h2 : r < 55296
  ·
   have e : (decide (0 ≤ r) && decide (r < 55296) || decide (57344 ≤ r) && decide (r ≤ 1114111)) = true := by simp [h1, h2]
   rw [e]; replace e := Lib.hid e
   go_enter Tryz.func109, Tryz.ntmps109
   go_wp2_with fail
   go_ret
   exact ⟨rfl, rfl⟩
  ·
   by_cases h3 : 57343 < r
   ·
    by_cases h4 : r ≤ 1114111
    ·
     have e : (decide (0 ≤ r) && decide (r < 55296) || decide (57344 ≤ r) && decide (r ≤ 1114111)) = true := by simp; right; omega
     rw [e]; replace e := Lib.hid e
     go_enter Tryz.func109, Tryz.ntmps109
     go_wp2_with fail
     go_ret
     exact ⟨rfl, rfl⟩
    ·
     have e : (decide (0 ≤ r) && decide (r < 55296) || decide (57344 ≤ r) && decide (r ≤ 1114111)) = false := by simp; omega
     rw [e]; replace e := Lib.hid e
     go_enter Tryz.func109, Tryz.ntmps109
     go_wp2_with fail
     go_ret
     exact ⟨rfl, rfl⟩
   ·
    have e : (decide (0 ≤ r) && decide (r < 55296) || decide (57344 ≤ r) && decide (r ≤ 1114111)) = false := by simp; omega
    rw [e]; replace e := Lib.hid e
    go_enter Tryz.func109, Tryz.ntmps109
    go_wp2_with fail
    go_ret
    exact ⟨rfl, rfl⟩
 ·
  have e : (decide (0 ≤ r) && decide (r < 55296) || decide (57344 ≤ r) && decide (r ≤ 1114111)) = false := by simp; omega
  rw [e]; replace e := Lib.hid e
  have h3 : ¬ 57343 < r := by omega
  go_enter Tryz.func109, Tryz.ntmps109
  go_wp2_with fail
  go_ret
  exact ⟨rfl, rfl⟩
def digB : ByteArray := ⟨#[48, 49, 50, 51, 52, 53, 54, 55, 56, 57, 97, 98, 99, 100, 101, 102]⟩
theorem digB_size : digB.size = 16 := rfl
theorem digB_low : ∀ i : Fin 16, (digB[i.val]'(by rw [digB_size]; exact i.isLt)).toNat < 128 := by decide +kernel
theorem digB_decode (pos : Nat) (h : pos < 16) : Utf8.decode digB pos = ((digB[pos]'(by rw [digB_size]; exact h)).toNat, 1) := decode_ascii digB pos (by rw [digB_size]; exact h) (digB_low ⟨pos, h⟩)
set_option maxRecDepth 100000 in
set_option maxHeartbeats 4000000 in
theorem idx_error (w : World) : Calls Tryz.prog 93 #[.string digB, .int .i32 65533] w fun e w' => e = .returned (.int .i64 (-1)) ∧ Below w.heap.size w w' := by
 have hd : digB = ⟨#[48, 49, 50, 51, 52, 53, 54, 55, 56, 57, 97, 98, 99, 100, 101, 102]⟩ := rfl
 generalize hD : digB = D at *
 replace hd := Lib.hid hd
 have hsz : D.size = 16 := by rw [← hD]; rfl
 have hdec : ∀ pos, pos < 16 → ∃ c : Nat, c < 128 ∧ Utf8.decode D pos = (c, 1) := by
  intro pos hp
  rw [← hD]
  exact ⟨_, digB_low ⟨pos, hp⟩, digB_decode pos hp⟩
 replace hD := Lib.hid hD
 go_enter Tryz.func93, Tryz.ntmps93
 go_wp2_with fail
 go_loopw [] (fun wr => ∃ pos : Nat, pos ≤ 16 ∧ wr.heap[w.heap.size]? = some (.stringIter D pos) ∧ Below w.heap.size w wr) (fun wr => 16 - wr.iterPos w.heap.size)
 case atStart => exact ⟨0, by omega, World.iter_heap w D 0, (Below.refl _ _).alloc (Nat.le_refl _) _⟩
 case round =>
  obtain ⟨pos, hp, hit, hb⟩ := hrel
  have hip : wr.iterPos w.heap.size = pos := by simp [World.iterPos, hit]
  by_cases hlt : pos < 16
  ·
   obtain ⟨c, hc, hcd⟩ := hdec pos hlt
   have hnx : ∀ ty, (Instr.next (.pointer (some ⟨w.heap.size, 0, none⟩)) true ty).run Tryz.prog wr = .ok (.tuple #[.bool true, .int .i64 pos, .int .i32 (c : Int)]) (wr.iterAt w.heap.size D (pos + 1)) := fun ty => by
    rw [Lib.run_next_any_at wr w.heap.size D pos ty hit (by omega), hcd]
   have hit2 := Lib.iterAt_heap wr w.heap.size D pos (pos + 1) hit
   have hb2 := Lib.below_iterAt hb (k := w.heap.size) (by omega) D (pos + 1)
   have hne : ((c : Int) == 65533) = false := by rw [beq_eq_false_iff_ne]; omega
   generalize wr.iterAt w.heap.size D (pos + 1) = w2 at *
   have hip2 : w2.iterPos w.heap.size = pos + 1 := by simp [World.iterPos, hit2]
   clear hdec hcd hit
   replace hip := Lib.hid hip
   replace hip2 := Lib.hid hip2
   go_wp2_with fail
   go_roundw
   case rel => exact ⟨pos + 1, by omega, hit2, hb2⟩
   case measure => rw [hip.out, hip2.out]; omega
  ·
   have hnx : ∀ ty, (Instr.next (.pointer (some ⟨w.heap.size, 0, none⟩)) true ty).run Tryz.prog wr = .ok (.tuple #[.bool false]) wr := fun ty => Lib.run_next_end_at wr w.heap.size D pos ty hit (by omega)
   clear hdec hit
   replace hip := Lib.hid hip
   go_wp2_with fail
   go_ret
   exact ⟨rfl, hb⟩
set_option maxRecDepth 100000 in
set_option maxHeartbeats 4000000 in
theorem idx_rune (r : Int) (w : World) (h1 : 128 ≤ r) : Calls Tryz.prog 93 #[.string digB, .int .i32 r] w fun e w' => e = .returned (.int .i64 (-1)) ∧ Below w.heap.size w w' := by
 by_cases he : r = 65533
 · subst he; exact idx_error w
 have hne : (r == 65533) = false := by rw [beq_eq_false_iff_ne]; exact he
 have hlo : ¬ r < 128 := by omega
 have h0 : 0 ≤ r := by omega
 have K := Lib.hid (valid_rune r)
 have hsz : digB.size = 16 := rfl
 by_cases hv : Utf8.valid r = true
 ·
  obtain ⟨e1, e2, e3⟩ := encode_facts r hv h1
  rw [hv] at K
  obtain ⟨E, hE⟩ : ∃ E, Utf8.encode r = E := ⟨_, rfl⟩
  rw [hE] at e1 e2 e3
  have hcv : ∀ W, (convert 21 9 (.int .i32 r)).run Tryz.prog W = .ok (.string E) W := fun W => by
   rw [run_convert_int_string W 21 9 .i32 r (by rw [Tryz.underlying21]; rfl) Tryz.underlying9, hE]
  obtain ⟨m, hm⟩ : ∃ m, E.size = m + 1 := ⟨E.size - 1, by omega⟩
  have hm1 : 1 ≤ m := by omega
  have hm3 : m ≤ 3 := by omega
  obtain ⟨x, hx⟩ : ∃ x : UInt8, digB[m]'(by rw [digB_size]; omega) = x := ⟨_, rfl⟩
  obtain ⟨y, hy⟩ : ∃ y : UInt8, E[m]'(by omega) = y := ⟨_, rfl⟩
  have hx1 : x.toNat < 128 := by rw [← hx]; exact digB_low ⟨m, by omega⟩
  have hy1 : 128 ≤ y.toNat := by
   have := e3 (by omega)
   simp only [hm, Nat.add_sub_cancel] at this
   rw [hy] at this
   exact this
  have i1 : ∀ W, (Instr.index 9 (.string digB) (.int .i64 (m : Int))).run Tryz.prog W = .ok (.int .u8 (x.toNat : Nat)) W := fun W => by
   rw [run_index_string W 9 digB .i64 (m : Int) Tryz.underlying9, dif_pos ⟨by omega, by rw [digB_size]; omega⟩]
   simp only [Int.toNat_natCast, hx]
  have i2 : ∀ W, (Instr.index 9 (.string E) (.int .i64 (m : Int))).run Tryz.prog W = .ok (.int .u8 (y.toNat : Nat)) W := fun W => by
   rw [run_index_string W 9 E .i64 (m : Int) Tryz.underlying9, dif_pos ⟨by omega, by omega⟩]
   simp only [Int.toNat_natCast, hy]
  obtain ⟨X, hX⟩ : ∃ X, digB.extract (m + 1) 16 = X := ⟨_, rfl⟩
  have i3 : ∀ W, (Instr.slice 9 (.string digB) (some (.int .i64 ((m : Int) + 1))) none none).run Tryz.prog W = .ok (.string X) W := fun W => by
   rw [run_slice_string_from_if W 9 digB .i64 ((m : Int) + 1) Tryz.underlying9, if_pos ⟨by omega, by rw [digB_size]; omega⟩, ← hX]
   rfl
  have hnone : Lib.indexByte X.data.toList y = -1 := by
   rcases Int.lt_or_eq_of_le (Lib.indexByte_ge X.data.toList y) with h | h
   ·
    exfalso
    obtain ⟨o, ho⟩ : ∃ o : Nat, Lib.indexByte X.data.toList y = o := ⟨(Lib.indexByte X.data.toList y).toNat, by omega⟩
    have hmem := List.mem_of_getElem? (Lib.indexByte_some ho).1
    rw [← hX, ByteArray.data_extract] at hmem
    have hmem2 : y ∈ digB.data.toList := by
     simp at hmem
     exact List.mem_of_mem_drop (List.mem_of_mem_take hmem) |> fun h => by simpa using h
    have hall : ∀ z ∈ digB.data.toList, z.toNat < 128 := by decide +kernel
    have := hall y hmem2
    omega
   · exact h.symm
  have K3 := fun W => Tryz.strings_IndexByte X (y.toNat : Nat) W
  have hyy : ((y.toNat : Int)).toNat.toUInt8 = y := by simp
  rw [hyy, hnone] at K3
  replace K3 := Lib.hid K3
  have hneq : ((x.toNat : Int) == (y.toNat : Int)) = false := by rw [beq_eq_false_iff_ne]; omega
  have hm16 : (m : Int) < 16 := by omega
  clear e1 e2 e3 hX hyy hnone hx hy
  generalize x.toNat = xn at *
  generalize y.toNat = yn at *
  generalize digB = D at *
  replace hv := Lib.hid hv
  replace hE := Lib.hid hE
  go_enter Tryz.func93, Tryz.ntmps93
  go_wp2_with (go_at_call 109; refine (K.out _).mono ?_; rintro e w5 ⟨rfl, rfl⟩)
  go_step3
  go_wp2_with fail
  go_loopw [9, 10] (fun i f wr => i = .int .i64 (m : Nat) ∧ f = .int .i64 0 ∧ wr = w5) (fun _ _ _ => 0)
  case atStart => exact ⟨rfl, rfl, rfl⟩
  case round =>
   obtain ⟨rfl, rfl, rfl⟩ := hrel
   have hwm : IntKind.i64.wrap ((m : Int) + 1) = (m : Int) + 1 := by rw [IntKind.wrap_i64]; omega
   go_wp2_with fail
   go_step3
   go_wp2_with fail
   go_region
   have hbd : Below wr.heap.size wr wr.drew := (Below.refl _ _).drew
   generalize wr.drew = w6 at *
   go_wp2_with fail
   go_region_held3 (fun W => Below wr.heap.size wr W) ((first | assumption | exact hbd.drew)) (first | (go_at_call 108; (with_reducible refine (K3.out _).mono ?_); rintro e w7 ⟨rfl, rfl⟩))
   all_goals
    go_wp2_with fail
    simp (zetaDelta := true) only [Exit.inBlock, Exit.noGoto_ret, Exit.then]
    go_ret
    exact ⟨rfl, by assumption⟩
 ·
  have hv' : Utf8.valid r = false := by simpa using hv
  rw [hv'] at K
  generalize digB = D at *
  replace hv := Lib.hid hv
  replace hv' := Lib.hid hv'
  go_enter Tryz.func93, Tryz.ntmps93
  go_wp2_with (go_at_call 109; refine (K.out _).mono ?_; rintro e w5 ⟨rfl, rfl⟩)
  go_ret
  exact ⟨rfl, Below.refl _ _⟩
def nibV (l : List UInt8) (i : Nat) : Nat := (hexv (l.getD i 0)).getD 0
theorem nibV_lt (l : List UInt8) (i : Nat) : nibV l i < 16 := by
 unfold nibV
 cases h : hexv (l.getD i 0) with
 | none => decide
 | some n => exact (hexd_hexv h).2
def uhF (l : List UInt8) (j : Nat) : Nat → Value := fun i => .int .u8 ((if 2 * i + 1 < j then 16 * nibV l (2 * i) + nibV l (2 * i + 1) else if 2 * i < j then nibV l (2 * i) else 0 : Nat) : Int)
theorem unhexL_take (l : List UInt8) : ∀ m, 2 * m ≤ l.length → (∀ k, k < 2 * m → hexv (l.getD k 0) ≠ none) → unhexL (l.take (2 * m)) = some ((List.range m).map fun i => UInt8.ofNat (16 * nibV l (2 * i) + nibV l (2 * i + 1)))
 | 0, _, _ => rfl
 | m + 1, h, hv => by
  have ih := unhexL_take l m (by omega) (fun k hk => hv k (by omega))
  have e0 : hexv (l.getD (2 * m) 0) = some (nibV l (2 * m)) := by
   unfold nibV
   cases hh : hexv (l.getD (2 * m) 0) with
   | none => exact absurd hh (hv _ (by omega))
   | some n => rfl
  have e1 : hexv (l.getD (2 * m + 1) 0) = some (nibV l (2 * m + 1)) := by
   unfold nibV
   cases hh : hexv (l.getD (2 * m + 1) 0) with
   | none => exact absurd hh (hv _ (by omega))
   | some n => rfl
  rw [unhexL_step (by omega) ih e0 e1, List.range_succ, List.map_append]
  rfl
theorem idx_hexN_fin : ∀ c : Fin 128, Lib.indexByte digs (UInt8.ofNat c.val) = hexN (UInt8.ofNat c.val) := by decide +kernel
theorem hexN_high {c : UInt8} (h : 128 ≤ c.toNat) : hexN c = -1 := by
 unfold hexN hexv
 rw [if_neg (by omega), if_neg (by omega)]
theorem idx_any (l : List UInt8) (j : Nat) (h : j < l.length) (w : World) :
  Calls Tryz.prog 93 #[.string digB, .int .i32 ((Utf8.decode ⟨l.toArray⟩ j).1 : Nat)] w fun e w' => e = .returned (.int .i64 (hexN (l.getD j 0))) ∧ Below w.heap.size w w' := by
 have hs : j < (ByteArray.mk l.toArray).size := h
 have hc : (ByteArray.mk l.toArray)[j]'hs = l.getD j 0 := by
  rw [List.getD_eq_getElem?_getD, List.getElem?_eq_getElem h]; rfl
 by_cases ha : ((ByteArray.mk l.toArray)[j]'hs).toNat < 128
 ·
  rw [decode_ascii _ j hs ha, hc]
  rw [hc] at ha
  refine (Tryz.strings_IndexRune_ascii digB _ w (by omega) (by omega)).mono ?_
  rintro e w1 ⟨rfl, rfl⟩
  have := idx_hexN_fin ⟨(l.getD j 0).toNat, ha⟩
  simp only [UInt8.ofNat_toNat] at this
  refine ⟨?_, Below.refl _ _⟩
  rw [← this]
  simp [digB, digs]
 ·
  have hd := (decode_high _ j hs (by omega)).1
  rw [hc] at ha
  rw [hexN_high (by omega)]
  exact idx_rune _ w (by omega)
set_option maxRecDepth 100000 in
set_option maxHeartbeats 4000000 in
theorem oct_unhex (l : List UInt8) (w : World) (hL : l.length ≤ 1000000) :
  Calls Tryz.prog 76 #[.string ⟨l.toArray⟩] w fun e w' => e = .returned (unhexV l) ∧ Below w.heap.size w w' := by
 have hsS : (ByteArray.mk l.toArray).size = l.length := rfl
 obtain ⟨n, hn⟩ : ∃ n, l.length / 2 = n := ⟨_, rfl⟩
 have hmk := run_make_row' (P := Tryz.prog) 82 5 (.int .u8 0) 1 Tryz.underlying82 info_u8 rfl .i64 .i64 n (by omega) (by omega)
 have ht : (l.length : Int).tmod 2 = ((l.length % 2 : Nat) : Int) := by simp [Int.tmod]
 have hq : (l.length : Int).tdiv 2 = (n : Int) := by rw [← hn]; simp [Int.tdiv]
 by_cases ho : l.length % 2 = 1
 ·
  rw [ho] at ht
  have z := Lib.hid (unhexL_odd ho)
  clear hmk
  go_enter Tryz.func76, Tryz.ntmps76
  go_wp2_with fail
  go_ret2
  exact ⟨by unfold unhexV; rw [z.out]; rfl, Below.refl _ _⟩
 have h0 : l.length % 2 = 0 := by omega
 rw [h0] at ht
 have hr0 := World.rowIs_made w (.int .u8 0) n 5
 have hA0 := fun j => idx_any l j
 have hS : ∀ j, j < l.length → 1 ≤ (Utf8.decode ⟨l.toArray⟩ j).2 := fun j hj => by
  by_cases ha : ((ByteArray.mk l.toArray)[j]'hj).toNat < 128
  · rw [decode_ascii ⟨l.toArray⟩ j hj ha]; exact Nat.le_refl 1
  · exact (decode_high ⟨l.toArray⟩ j hj (by omega)).2
 have hS1 : ∀ j, (hj : j < l.length) → hexv (l.getD j 0) ≠ none → (Utf8.decode ⟨l.toArray⟩ j).2 = 1 := fun j hj hv => by
  have ha : ((ByteArray.mk l.toArray)[j]'hj).toNat < 128 := by
   have hc : (ByteArray.mk l.toArray)[j]'hj = l.getD j 0 := by
    rw [List.getD_eq_getElem?_getD, List.getElem?_eq_getElem hj]; rfl
   rw [hc]
   unfold hexv at hv
   split at hv
   · omega
   ·
    split at hv
    · omega
    · exact absurd rfl hv
  rw [decode_ascii ⟨l.toArray⟩ j hj ha]
 have hD : digB = ⟨#[48, 49, 50, 51, 52, 53, 54, 55, 56, 57, 97, 98, 99, 100, 101, 102]⟩ := rfl
 rw [hD] at hA0
 generalize (ByteArray.mk l.toArray) = S at *
 go_enter Tryz.func76, Tryz.ntmps76
 go_wp2_with fail
 clear hmk
 have hsz0 : (w.alloc (.cells (madeCells #[.int .u8 0] n) 5)).heap.size = w.heap.size + 1 := by simp
 have hbA : Below w.heap.size w (w.alloc (.cells (madeCells #[.int .u8 0] n) 5)) := (Below.refl _ _).alloc (Nat.le_refl _) _
 generalize w.alloc (.cells (madeCells #[.int .u8 0] n) 5) = w0 at *
 have hit0 := World.iter_heap w0 S 0
 have hr1 : (w0.iter S 0).rowIs w.heap.size 5 n (uhF l 0) := (rowIs_below hr0 ((Below.refl _ w0).alloc (Nat.le_refl _) _ : Below w0.heap.size w0 (w0.iter S 0)) (by omega)).congr (fun i hi => by simp [uhF])
 have hb1 : Below w.heap.size w (w0.iter S 0) := hbA.trans ((Below.refl _ w0).alloc (by omega) _)
 rw [hsz0] at hit0
 go_loopw [5] (fun i wr => ∃ j : Nat, j ≤ l.length ∧ i = .int .i64 (j : Nat) ∧ wr.heap[w.heap.size + 1]? = some (.stringIter S j) ∧ wr.rowIs w.heap.size 5 n (uhF l j) ∧ Below w.heap.size w wr ∧ ∀ k, k < j → hexv (l.getD k 0) ≠ none) (fun i _ => l.length - (intOf i).toNat)
 case atStart => exact ⟨0, by omega, rfl, hit0, hr1, hb1, fun k hk => by omega⟩
 case round =>
  obtain ⟨j, hj, rfl, hit, hr, hb, hno⟩ := hrel
  have hszr : w.heap.size + 1 < wr.heap.size := (Array.getElem?_eq_some_iff.1 hit).1
  by_cases hlt : j < l.length
  ·
   obtain ⟨r, hrd⟩ : ∃ r, (Utf8.decode S j).1 = r := ⟨_, rfl⟩
   obtain ⟨wd, hwd⟩ : ∃ wd, (Utf8.decode S j).2 = wd := ⟨_, rfl⟩
   have hnx : ∀ ty, (Instr.next (.pointer (some ⟨w.heap.size + 1, 0, none⟩)) true ty).run Tryz.prog wr = .ok (.tuple #[.bool true, .int .i64 j, .int .i32 (r : Int)]) (wr.iterAt (w.heap.size + 1) S (j + wd)) := fun ty => by
    rw [Lib.run_next_any_at wr (w.heap.size + 1) S j ty hit (by omega), hrd, hwd]
   have hit2 := Lib.iterAt_heap wr (w.heap.size + 1) S j (j + wd) hit
   have hb2 := Lib.below_iterAt hb (k := w.heap.size + 1) (by omega) S (j + wd)
   have hr2 : (wr.iterAt (w.heap.size + 1) S (j + wd)).rowIs w.heap.size 5 n (uhF l j) := hr.of_block (Lib.iterAt_other _ _ _ _ _ (by omega))
   have hs2 : (wr.iterAt (w.heap.size + 1) S (j + wd)).heap.size = wr.heap.size := Lib.iterAt_size _ _ _ _
   generalize wr.iterAt (w.heap.size + 1) S (j + wd) = w2 at *
   have K := hA0 j hlt
   rw [hrd] at K
   have h1 := hS1 j hlt
   rw [hwd] at h1
   obtain ⟨c, hc⟩ : ∃ c, l.getD j 0 = c := ⟨_, rfl⟩
   rw [hc] at K h1
   obtain ⟨N, hN⟩ : ∃ N, hexN c = N := ⟨_, rfl⟩
   rw [hN] at K
   replace K := Lib.hid K
   clear hA0 hS hS1 hr hit hb hr1 hit0 hr0
   replace h1 := Lib.hid h1
   replace hno := Lib.hid hno
   replace hc := Lib.hid hc
   replace hN := Lib.hid hN
   by_cases hneg : N < 0
   ·
    have z : unhexL l = none := by
     refine unhexL_bad hlt ?_
     rw [hc.out]
     rcases hexN_of (c := c) with ⟨v, _⟩ | ⟨m, _, _, e⟩
     · exact v
     · have := hN.out; omega
    replace z := Lib.hid z
    go_wp2_with (go_at_call 93; refine (K.out _).mono ?_; rintro e w3 ⟨rfl, hb3⟩)
    go_ret2
    exact ⟨by unfold unhexV; rw [z.out]; rfl, below_chain hb3 hb2⟩
   ·
    obtain ⟨v, hv16, hve, hNv⟩ : ∃ m, m < 16 ∧ hexv c = some m ∧ N = (m : Int) := by
     rcases hexN_of (c := c) with ⟨_, e⟩ | ⟨m, m1, m2, e⟩
     · have := hN.out; omega
     · exact ⟨m, m1, m2, hN.out ▸ e⟩
    have hwd1 := h1.out (by rw [hve]; simp)
    rw [hwd1] at hit2
    rw [hNv] at K
    have hnv : nibV l j = v := by unfold nibV; rw [hc.out, hve]; rfl
    have hqn : j / 2 < n := by omega
    obtain ⟨x, hx16, hxe⟩ : ∃ x, x < 16 ∧ uhF l j (j / 2) = .int .u8 (x : Nat) ∧ (uhF l (j + 1) (j / 2) = .int .u8 ((16 * x + v : Nat) : Int)) := by
     by_cases hp : j % 2 = 0
     ·
      refine ⟨0, by omega, ?_, ?_⟩
      · unfold uhF; rw [if_neg (by omega), if_neg (by omega)]
      · unfold uhF; rw [if_neg (by omega), if_pos (by omega), show 2 * (j / 2) = j by omega, hnv]; simp
     ·
      refine ⟨nibV l (2 * (j / 2)), nibV_lt _ _, ?_, ?_⟩
      · unfold uhF; rw [if_neg (by omega), if_pos (by omega)]
      · unfold uhF; rw [if_pos (by omega), show 2 * (j / 2) + 1 = j by omega, hnv]
    have hu1 : IntKind.u8.wrap ((x : Int) * 16) = (x : Int) * 16 := by rw [IntKind.wrap_u8]; omega
    have hu2 : IntKind.u8.wrap (v : Int) = (v : Int) := by rw [IntKind.wrap_u8]; omega
    have hno2 : ∀ k, k < j + 1 → hexv (l.getD k 0) ≠ none := fun k hk => by
     by_cases e : k = j
     · rw [e, hc.out, hve]; simp
     · exact hno.out k (by omega)
    obtain ⟨y, hy⟩ : ∃ y, 16 * x + v = y := ⟨_, rfl⟩
    have hu3 : bits BinOp.or IntKind.u8 ((x : Int) * 16) (v : Int) = (y : Int) := by
     rw [show (x : Int) * 16 = ((x * 16 : Nat) : Int) by omega, u8_or_nat _ _ (by omega) (by omega)]
     have := Nat.two_pow_add_eq_or_of_lt (i := 4) (b := v) (by simpa using hv16) x
     rw [show 2 ^ 4 * x = x * 16 by omega] at this
     rw [← this, ← hy, Nat.mul_comm]
    rw [hy] at hxe
    have hlast : ∀ w3, Below w2.heap.size w2 w3 → (w3.setCell ⟨w.heap.size, j / 2, none⟩ (.int .u8 (y : Int))).rowIs w.heap.size 5 n (uhF l (j + 1)) ∧ Below w.heap.size w (w3.setCell ⟨w.heap.size, j / 2, none⟩ (.int .u8 (y : Int))) ∧ (w3.setCell ⟨w.heap.size, j / 2, none⟩ (.int .u8 (y : Int))).heap[w.heap.size + 1]? = some (.stringIter S (j + 1)) := by
     intro w3 hb3
     have hr3 := rowIs_call hr2 hb3
     have hit3 := (hb3.block _ (show w.heap.size + 1 < w2.heap.size by omega)).trans hit2
     have hb4 := below_chain hb3 hb2
     refine ⟨(hr3.set (j / 2) _).congr fun i hi => ?_, hb4.setCell (Nat.le_refl _) _, (Below.heap_setCell _ _ _ _ (by simp)).trans hit3⟩
     by_cases e : i = j / 2
     · rw [if_pos e, e, hxe.2]
     ·
      rw [if_neg e]
      unfold uhF
      by_cases e1 : 2 * i + 1 < j
      · rw [if_pos e1, if_pos (by omega)]
      · rw [if_neg e1, if_neg (by omega), if_neg (by omega), if_neg (by omega)]
    have hxe1 := hxe.1
    replace hlast := Lib.hid hlast
    replace hno2 := Lib.hid hno2
    replace hxe := Lib.hid hxe
    replace hxe1 := Lib.hid hxe1
    replace hve := Lib.hid hve
    replace hnv := Lib.hid hnv
    replace hr2 := Lib.hid hr2
    replace hy := Lib.hid hy
    clear hit2 h1 hNv hneg
    have h0v : ¬ (v : Int) < 0 := by omega
    go_wp2_with (go_at_call 93; refine (K.out _).mono ?_; rintro e w3 ⟨rfl, hb3⟩; have hr3 := rowIs_call hr2.out hb3; have c0 := hr3.cell (i := j / 2) hqn; have f0 := hr3.frozen (j / 2); rw [hxe1.out] at c0; replace hr3 := Lib.hid hr3)
    obtain ⟨z1, z2, z3⟩ := hlast.out w3 hb3
    replace z1 := Lib.hid z1
    replace z3 := Lib.hid z3
    go_roundw
    case rel => exact ⟨j + 1, by omega, by go_num, z3.out, z1.out, z2, hno2.out⟩
    case measure => simp [intOf]; omega
  ·
   have hnx : ∀ ty, (Instr.next (.pointer (some ⟨w.heap.size + 1, 0, none⟩)) true ty).run Tryz.prog wr = .ok (.tuple #[.bool false]) wr := fun ty => Lib.run_next_end_at wr (w.heap.size + 1) S j ty hit (by omega)
   obtain rfl : j = l.length := by omega
   have hU := unhexL_take l n (by omega) (fun k hk => hno k (by omega))
   rw [List.take_of_length_le (by omega)] at hU
   have hnl : ((List.range n).map fun i => UInt8.ofNat (16 * nibV l (2 * i) + nibV l (2 * i + 1))).length = n := by simp
   have hcv := run_convert_bytes_back (P := Tryz.prog) wr 82 9 5 ⟨w.heap.size, 0, none⟩ n ((List.range n).map fun i => UInt8.ofNat (16 * nibV l (2 * i) + nibV l (2 * i + 1))) Tryz.underlying82 Tryz.underlying5 Tryz.underlying9 (fun i hi => by
    have hi' : i < n := by simpa using hi
    have e : (⟨w.heap.size, 0, none⟩ : Addr).add i = ⟨w.heap.size, i, none⟩ := by unfold Addr.add; split <;> simp_all
    rw [e, hr.cell hi']
    have := nibV_lt l (2 * i)
    have := nibV_lt l (2 * i + 1)
    simp only [uhF, List.getElem_map, List.getElem_range, UInt8.toNat_ofNat']
    rw [if_pos (by omega), Nat.mod_eq_of_lt (by omega)])
   rw [hnl] at hcv
   generalize ((List.range n).map fun i => UInt8.ofNat (16 * nibV l (2 * i) + nibV l (2 * i + 1))) = res at *
   replace hU := Lib.hid hU
   clear hA0 hS hS1 hr hit hno hr1 hit0 hr0
   go_wp2_with fail
   go_ret2
   exact ⟨by unfold unhexV; rw [hU.out]; rfl, hb⟩
def adrV (a : Option (Bool × Nat × Nat)) : Value := match a with
 | some (v, hi, lo) => .agg #[.bool v, .int .u64 (hi : Nat), .int .u64 (lo : Nat)]
 | none => .agg #[.bool false, .int .u64 0, .int .u64 0]
abbrev adrT (a : Option (Bool × Nat × Nat)) : Value := .tuple #[adrV a, .bool a.isSome]
theorem blk3 {w : World} {g : Nat} {t : TypeId} {a b c : Value} (h : Blk w g t #[a, b, c]) :
  (w.cell? ⟨g, 0, none⟩ = some a ∧ w.cell? ⟨g, 1, none⟩ = some b ∧ w.cell? ⟨g, 2, none⟩ = some c) ∧ w.frozen? ⟨g, 0, none⟩ = false ∧ w.frozen? ⟨g, 1, none⟩ = false ∧ w.frozen? ⟨g, 2, none⟩ = false := by
 unfold Blk at h
 refine ⟨⟨?_, ?_, ?_⟩, ?_, ?_, ?_⟩ <;> simp [World.cell?, World.frozen?, h]
theorem blk3_set {w : World} {g : Nat} {t : TypeId} {a b c : Value} (h : Blk w g t #[a, b, c]) (a' b' c' : Value) :
  Blk (((w.setCell ⟨g, 0, none⟩ a').setCell ⟨g, 1, none⟩ b').setCell ⟨g, 2, none⟩ c') g t #[a', b', c'] := by
 unfold Blk at h ⊢
 simp [World.setCell, Array.getElem?_modify, h]
theorem below_set3 {w0 w : World} {g : Nat} (hb : Below w0.heap.size w0 w) (hg : w0.heap.size ≤ g) (a b c : Value) : Below w0.heap.size w0 (((w.setCell ⟨g, 0, none⟩ a).setCell ⟨g, 1, none⟩ b).setCell ⟨g, 2, none⟩ c) :=
 ((hb.setCell hg _).setCell hg _).setCell hg _
set_option maxRecDepth 100000 in
set_option maxHeartbeats 4000000 in
theorem addr_get (b : List UInt8) (w : World) :
  Calls Tryz.prog 112 #[.string ⟨b.toArray⟩] w fun e w' => e = .returned (adrT (getA b)) ∧ Below w.heap.size w w' := by
 have K := Blk.new w 24 #[.bool false, .int .u64 0, .int .u64 0]
 have hb0 : Below w.heap.size w (w.alloc (.cells #[.bool false, .int .u64 0, .int .u64 0] 24)) := (Below.refl _ _).alloc (Nat.le_refl _) _
 have hs0 : (w.alloc (.cells #[.bool false, .int .u64 0, .int .u64 0] 24)).heap.size = w.heap.size + 1 := by simp
 by_cases h4 : b.length = 4
 ·
  have e4 : ((b.length : Int) == 4) = true := by rw [h4]; rfl
  have G := oct_get b 0 4
  rw [List.drop_zero, List.take_of_length_le (by omega)] at G
  have hg : getA b = some (false, 0, numB b) := by unfold getA; rw [if_pos h4]
  rw [hg]
  replace hg := Lib.hid hg
  have G2 := Lib.hid (fun W => G W (by omega) (by omega) (by omega) (by omega))
  clear G
  generalize numB b = nb at *
  go_enter Tryz.func112, Tryz.ntmps112
  go_wp2_with (go_at_call 118; refine (G2.out _).mono ?_; rintro e w2 ⟨rfl, hb2⟩; have K2 := K.call hb2; have hbA := below_chain hb2 hb0; obtain ⟨⟨c0, c1, c2⟩, f0, f1, f2⟩ := blk3 K2; clear hb2 K; replace K2 := Lib.hid K2)
  have K3 := blk3_set K2.out (.bool false) (.int .u64 0) (.int .u64 (nb : Nat)); have hb3 := below_set3 hbA (Nat.le_refl _) (.bool false) (.int .u64 0) (.int .u64 (nb : Nat)); generalize (((w2.setCell ⟨w.heap.size, 0, none⟩ (.bool false)).setCell ⟨w.heap.size, 1, none⟩ (.int .u64 0)).setCell ⟨w.heap.size, 2, none⟩ (.int .u64 (nb : Nat))) = w3 at *; clear c0 c1 c2 f0 f1 f2; obtain ⟨⟨c0, c1, c2⟩, f0, f1, f2⟩ := blk3 K3; replace K3 := Lib.hid K3; refine bodyPost_ret (v := .tuple #[.agg #[.bool false, .int .u64 0, .int .u64 (nb : Nat)], .bool true]) (by simp [results, Tryz.results112, go_sem, *]) rfl ?_; exact ⟨rfl, hb3⟩
 ·
  have e4 : ((b.length : Int) == 4) = false := by rw [beq_eq_false_iff_ne]; omega
  by_cases h16 : b.length = 16
  ·
   have e16 : ((b.length : Int) == 16) = true := by rw [h16]; rfl
   have G := fun W => oct_get b 0 8 W (by omega) (by omega) (by omega) (by omega)
   have H := fun W => oct_get b 8 8 W (by omega) (by omega) (by omega) (by omega)
   rw [show ((8 : Nat) : Int) = 8 from rfl] at G H
   rw [show ((0 : Nat) : Int) = 0 from rfl] at G
   rw [List.drop_zero] at G
   rw [List.take_of_length_le (by simp; omega)] at H
   have hg : getA b = some (true, numB (b.take 8), numB (b.drop 8)) := by unfold getA; rw [if_neg h4, if_pos h16]
   rw [hg]
   replace hg := Lib.hid hg
   have G2 := Lib.hid G
   have H2 := Lib.hid H
   clear G H
   generalize numB (b.take 8) = n1 at *
   generalize numB (b.drop 8) = n2 at *
   have K6 := Blk.new (w.alloc (.cells #[.bool false, .int .u64 0, .int .u64 0] 24)) 24 #[.bool true, .int .u64 0, .int .u64 0]
   have K0 := K.alloc (.cells #[.bool true, .int .u64 0, .int .u64 0] 24)
   have hb1 := below_alloc hb0 (.cells #[.bool true, .int .u64 0, .int .u64 0] 24)
   rw [hs0] at K6
   clear K
   go_enter Tryz.func112, Tryz.ntmps112
   go_upto_region 8 with (go_at_call 118; (with_reducible refine (G2.out _).mono ?_); rintro e w2 ⟨rfl, hb2⟩; have K2 := K0.call hb2; have L2 := K6.call hb2; have hbA := below_chain hb2 hb1; obtain ⟨⟨c0, c1, c2⟩, f0, f1, f2⟩ := blk3 L2; clear hb2 K0 K6 hb1)
   have L3 := L2.set_ 1 (.int .u64 (n1 : Nat))
   have K3 := K2.far (p := ⟨w.heap.size + 1, 1, none⟩) (by simp) (.int .u64 (n1 : Nat))
   have hbB : Below w.heap.size w (w2.setCell ⟨w.heap.size + 1, 1, none⟩ (.int .u64 (n1 : Nat))) := hbA.setCell (by simp) _
   simp only [List.setIfInBounds_toArray, List.set_cons_succ, List.set_cons_zero] at L3
   generalize w2.setCell ⟨w.heap.size + 1, 1, none⟩ (.int .u64 (n1 : Nat)) = w3 at *
   clear K2 L2 hbA c0 c1 c2 f0 f1 f2
   go_wp2_with (go_at_call 118; (with_reducible refine (H2.out _).mono ?_); rintro e w4 ⟨rfl, hb4⟩; have K2 := K3.call hb4; have L2 := L3.call hb4; have hbA := below_chain hb4 hbB; obtain ⟨⟨c0, c1, c2⟩, f0, f1, f2⟩ := blk3 L2; obtain ⟨⟨d0, d1, d2⟩, g0, g1, g2⟩ := blk3 K2)
   have K5 := blk3_set (K2.far (p := ⟨w.heap.size + 1, 2, none⟩) (by simp) (.int .u64 (n2 : Nat))) (.bool true) (.int .u64 (n1 : Nat)) (.int .u64 (n2 : Nat))
   have hb3 := below_set3 (hbA.setCell (p := ⟨w.heap.size + 1, 2, none⟩) (by simp) (.int .u64 (n2 : Nat))) (Nat.le_refl _) (.bool true) (.int .u64 (n1 : Nat)) (.int .u64 (n2 : Nat))
   generalize ((((w4.setCell ⟨w.heap.size + 1, 2, none⟩ (.int .u64 (n2 : Nat))).setCell ⟨w.heap.size, 0, none⟩ (.bool true)).setCell ⟨w.heap.size, 1, none⟩ (.int .u64 (n1 : Nat))).setCell ⟨w.heap.size, 2, none⟩ (.int .u64 (n2 : Nat))) = w5 at *
   clear c0 c1 c2 f0 f1 f2 d0 d1 d2 g0 g1 g2
   obtain ⟨⟨c0, c1, c2⟩, f0, f1, f2⟩ := blk3 K5
   replace K5 := Lib.hid K5
   refine bodyPost_ret (v := .tuple #[.agg #[.bool true, .int .u64 (n1 : Nat), .int .u64 (n2 : Nat)], .bool true]) (by simp [results, Tryz.results112, go_sem, *]) rfl ?_
   exact ⟨rfl, hb3⟩
  ·
   have e16 : ((b.length : Int) == 16) = false := by rw [beq_eq_false_iff_ne]; omega
   have hg : getA b = none := by unfold getA; rw [if_neg h4, if_neg h16]
   rw [hg]
   replace hg := Lib.hid hg
   obtain ⟨w2, hw2⟩ : ∃ w2, w.alloc (.cells #[.bool false, .int .u64 0, .int .u64 0] 24) = w2 := ⟨_, rfl⟩
   have K2 := Lib.hid K
   have hbA := hb0
   obtain ⟨⟨c0, c1, c2⟩, f0, f1, f2⟩ := blk3 K
   clear hs0 hb0 K
   rw [hw2] at K2 hbA c0 c1 c2 f0 f1 f2
   go_enter Tryz.func112, Tryz.ntmps112
   go_wp2_with fail
   have K3 := blk3_set K2.out (.bool false) (.int .u64 0) (.int .u64 0); have hb3 := below_set3 hbA (Nat.le_refl _) (.bool false) (.int .u64 0) (.int .u64 0); generalize (((w2.setCell ⟨w.heap.size, 0, none⟩ (.bool false)).setCell ⟨w.heap.size, 1, none⟩ (.int .u64 0)).setCell ⟨w.heap.size, 2, none⟩ (.int .u64 0)) = w3 at *; clear c0 c1 c2 f0 f1 f2; obtain ⟨⟨c0, c1, c2⟩, f0, f1, f2⟩ := blk3 K3; replace K3 := Lib.hid K3; refine bodyPost_ret (v := .tuple #[.agg #[.bool false, .int .u64 0, .int .u64 0], .bool false]) (by simp [results, Tryz.results112, go_sem, *]) rfl ?_; exact ⟨rfl, hb3⟩
set_option maxRecDepth 100000 in
set_option maxHeartbeats 4000000 in
theorem refaddr_get (b : List UInt8) (w : World) :
  Calls Tryz.prog 64 #[.string ⟨b.toArray⟩] w fun e w' => e = .returned (adrT (getA b)) ∧ Below w.heap.size w w' := by
 have K := Blk.new w 24 #[.bool false, .int .u64 0, .int .u64 0]
 have hb0 : Below w.heap.size w (w.alloc (.cells #[.bool false, .int .u64 0, .int .u64 0] 24)) := (Below.refl _ _).alloc (Nat.le_refl _) _
 have hs0 : (w.alloc (.cells #[.bool false, .int .u64 0, .int .u64 0] 24)).heap.size = w.heap.size + 1 := by simp
 by_cases h4 : b.length = 4
 ·
  have e4 : ((b.length : Int) == 4) = true := by rw [h4]; rfl
  have G := refoct_get b 0 4
  rw [List.drop_zero, List.take_of_length_le (by omega)] at G
  have hg : getA b = some (false, 0, numB b) := by unfold getA; rw [if_pos h4]
  rw [hg]
  replace hg := Lib.hid hg
  have G2 := Lib.hid (fun W => G W (by omega) (by omega) (by omega) (by omega))
  clear G
  generalize numB b = nb at *
  go_enter Tryz.func64, Tryz.ntmps64
  go_wp2_with (go_at_call 78; refine (G2.out _).mono ?_; rintro e w2 ⟨rfl, hb2⟩; have K2 := K.call hb2; have hbA := below_chain hb2 hb0; obtain ⟨⟨c0, c1, c2⟩, f0, f1, f2⟩ := blk3 K2; clear hb2 K; replace K2 := Lib.hid K2)
  have K3 := blk3_set K2.out (.bool false) (.int .u64 0) (.int .u64 (nb : Nat)); have hb3 := below_set3 hbA (Nat.le_refl _) (.bool false) (.int .u64 0) (.int .u64 (nb : Nat)); generalize (((w2.setCell ⟨w.heap.size, 0, none⟩ (.bool false)).setCell ⟨w.heap.size, 1, none⟩ (.int .u64 0)).setCell ⟨w.heap.size, 2, none⟩ (.int .u64 (nb : Nat))) = w3 at *; clear c0 c1 c2 f0 f1 f2; obtain ⟨⟨c0, c1, c2⟩, f0, f1, f2⟩ := blk3 K3; replace K3 := Lib.hid K3; refine bodyPost_ret (v := .tuple #[.agg #[.bool false, .int .u64 0, .int .u64 (nb : Nat)], .bool true]) (by simp [results, Tryz.results64, go_sem, *]) rfl ?_; exact ⟨rfl, hb3⟩
 ·
  have e4 : ((b.length : Int) == 4) = false := by rw [beq_eq_false_iff_ne]; omega
  by_cases h16 : b.length = 16
  ·
   have e16 : ((b.length : Int) == 16) = true := by rw [h16]; rfl
   have G := fun W => refoct_get b 0 8 W (by omega) (by omega) (by omega) (by omega)
   have H := fun W => refoct_get b 8 8 W (by omega) (by omega) (by omega) (by omega)
   rw [show ((8 : Nat) : Int) = 8 from rfl] at G H
   rw [show ((0 : Nat) : Int) = 0 from rfl] at G
   rw [List.drop_zero] at G
   rw [List.take_of_length_le (by simp; omega)] at H
   have hg : getA b = some (true, numB (b.take 8), numB (b.drop 8)) := by unfold getA; rw [if_neg h4, if_pos h16]
   rw [hg]
   replace hg := Lib.hid hg
   have G2 := Lib.hid G
   have H2 := Lib.hid H
   clear G H
   generalize numB (b.take 8) = n1 at *
   generalize numB (b.drop 8) = n2 at *
   go_enter Tryz.func64, Tryz.ntmps64
   go_upto_region 6 with (go_at_call 78; (with_reducible refine (G2.out _).mono ?_); rintro e w1 ⟨rfl, hb1⟩)
   have K1 := K.call hb1
   have hbB := below_chain hb1 hb0
   go_wp2_with (go_at_call 78; (with_reducible refine (H2.out _).mono ?_); rintro e w2 ⟨rfl, hb2⟩; have K2 := K1.call hb2; have hbA := below_chain hb2 hbB; obtain ⟨⟨c0, c1, c2⟩, f0, f1, f2⟩ := blk3 K2; replace K2 := Lib.hid K2)
   have K3 := blk3_set K2.out (.bool true) (.int .u64 (n1 : Nat)) (.int .u64 (n2 : Nat)); have hb3 := below_set3 hbA (Nat.le_refl _) (.bool true) (.int .u64 (n1 : Nat)) (.int .u64 (n2 : Nat)); generalize (((w2.setCell ⟨w.heap.size, 0, none⟩ (.bool true)).setCell ⟨w.heap.size, 1, none⟩ (.int .u64 (n1 : Nat))).setCell ⟨w.heap.size, 2, none⟩ (.int .u64 (n2 : Nat))) = w3 at *; clear c0 c1 c2 f0 f1 f2; obtain ⟨⟨c0, c1, c2⟩, f0, f1, f2⟩ := blk3 K3; replace K3 := Lib.hid K3; refine bodyPost_ret (v := .tuple #[.agg #[.bool true, .int .u64 (n1 : Nat), .int .u64 (n2 : Nat)], .bool true]) (by simp [results, Tryz.results64, go_sem, *]) rfl ?_; exact ⟨rfl, hb3⟩
  ·
   have e16 : ((b.length : Int) == 16) = false := by rw [beq_eq_false_iff_ne]; omega
   have hg : getA b = none := by unfold getA; rw [if_neg h4, if_neg h16]
   rw [hg]
   replace hg := Lib.hid hg
   obtain ⟨w2, hw2⟩ : ∃ w2, w.alloc (.cells #[.bool false, .int .u64 0, .int .u64 0] 24) = w2 := ⟨_, rfl⟩
   have K2 := Lib.hid K
   have hbA := hb0
   obtain ⟨⟨c0, c1, c2⟩, f0, f1, f2⟩ := blk3 K
   clear hs0 hb0 K
   rw [hw2] at K2 hbA c0 c1 c2 f0 f1 f2
   go_enter Tryz.func64, Tryz.ntmps64
   go_wp2_with fail
   have K3 := blk3_set K2.out (.bool false) (.int .u64 0) (.int .u64 0); have hb3 := below_set3 hbA (Nat.le_refl _) (.bool false) (.int .u64 0) (.int .u64 0); generalize (((w2.setCell ⟨w.heap.size, 0, none⟩ (.bool false)).setCell ⟨w.heap.size, 1, none⟩ (.int .u64 0)).setCell ⟨w.heap.size, 2, none⟩ (.int .u64 0)) = w3 at *; clear c0 c1 c2 f0 f1 f2; obtain ⟨⟨c0, c1, c2⟩, f0, f1, f2⟩ := blk3 K3; replace K3 := Lib.hid K3; refine bodyPost_ret (v := .tuple #[.agg #[.bool false, .int .u64 0, .int .u64 0], .bool false]) (by simp [results, Tryz.results64, go_sem, *]) rfl ?_; exact ⟨rfl, hb3⟩
theorem conv_dig (r : Nat) (W : World) (hr : r < 10) : (convert 82 9 (.slice (some ⟨W.heap.size, 0, none⟩) 1 1)).run Tryz.prog (W.alloc (.cells #[.int .u8 (48 + (r : Int))] 5)) = .ok (.string ⟨#[UInt8.ofNat (48 + r)]⟩) (W.alloc (.cells #[.int .u8 (48 + (r : Int))] 5)) :=
 run_convert_bytes_back (P := Tryz.prog) _ 82 9 5 ⟨W.heap.size, 0, none⟩ 1 [UInt8.ofNat (48 + r)] Tryz.underlying82 Tryz.underlying5 Tryz.underlying9 (fun i hi => by
  have hi' : i = 0 := by simpa using hi
  subst hi'
  have := (Blk.new W 5 #[.int .u8 (48 + (r : Int))]).cell 0
  simp only [Addr.add, Nat.zero_add] at this ⊢
  simp
  omega)
set_option maxRecDepth 100000 in
set_option maxHeartbeats 4000000 in
theorem ref_digits_nat : ∀ (n : Nat) (w : World), n < 9223372036854775808 → Calls Tryz.prog 24 #[.int .i64 n] w fun e w' => e = .returned (.string ⟨(Lib.decDigits n).toArray⟩) ∧ Below w.heap.size w w' := by
 intro n
 induction n using Nat.strongRecOn with
 | _ n ih =>
  intro w hn
  obtain ⟨r, hr⟩ : ∃ r, n % 10 = r := ⟨_, rfl⟩
  have hr10 : r < 10 := by omega
  have hcv := fun W => conv_dig r W hr10
  have t3 : (n : Int).tmod 10 = (r : Int) := by rw [← hr]; simp [Int.tmod]
  have h0 : ¬ (n : Int) < 0 := by omega
  have hu : IntKind.u8.wrap (48 + (r : Int)) = 48 + (r : Int) := by rw [IntKind.wrap_u8]; omega
  obtain ⟨R, hR⟩ : ∃ R, Lib.decDigits n = R := ⟨_, rfl⟩
  rw [hR]
  by_cases h : n < 10
  ·
   have g : (n : Int) < 10 := by omega
   have hR2 : R = [UInt8.ofNat (48 + r)] := by rw [← hR, Lib.decDigits_one h]; congr 3; omega
   subst hR2
   clear ih hR
   replace hr := Lib.hid hr
   go_enter Tryz.func24, Tryz.ntmps24
   go_wp2_with fail
   go_ret
   exact ⟨by simp, (Below.refl _ _).alloc (Nat.le_refl _) _⟩
  ·
   have g : ¬ (n : Int) < 10 := by omega
   obtain ⟨q, hq⟩ : ∃ q, n / 10 = q := ⟨_, rfl⟩
   have hR2 : R = Lib.decDigits q ++ [UInt8.ofNat (48 + r)] := by rw [← hR, decDigits_big h, hq, hr]
   have t2 : (n : Int).tdiv 10 = (q : Int) := by rw [← hq]; simp [Int.tdiv]
   have hwq : wrap64 (q : Int) = (q : Int) := by unfold wrap64; omega
   have D := Lib.hid (fun W => ih q (by omega) W (by omega))
   have hl := Lib.decDigits_length q
   have hl2 : (Lib.decDigits q).length ≤ 30 := by
    have h1 : 1 ≤ q := by omega
    have := Lib.numDigits_eq q h1 (by omega)
    rw [hl]
    split at this <;> omega
   have hcat : (ByteArray.mk (Lib.decDigits q).toArray) ++ ⟨#[UInt8.ofNat (48 + r)]⟩ = ⟨R.toArray⟩ := by rw [hR2]; exact str_append (Lib.decDigits q) [UInt8.ofNat (48 + r)]
   generalize Lib.decDigits q = Q at *
   generalize UInt8.ofNat (48 + r) = cc at *
   have hss : ¬ 9223372036854775807 < Q.length + 1 := by omega
   clear ih hR hR2 hl
   replace hcat := Lib.hid hcat
   replace hr := Lib.hid hr
   replace hq := Lib.hid hq
   have hb0 : Below w.heap.size w (w.alloc (.cells #[.int .u8 (48 + (r : Int))] 5)) := (Below.refl _ _).alloc (Nat.le_refl _) _
   go_enter Tryz.func24, Tryz.ntmps24
   go_wp2_with (go_at_call 24; (with_reducible refine (D.out _).mono ?_); rintro e w2 ⟨rfl, hb2⟩)
   go_ret
   exact ⟨by rw [← hcat.out]; rfl, below_chain hb2 hb0⟩
set_option maxRecDepth 100000 in
set_option maxHeartbeats 4000000 in
theorem ref_digits_neg : ∀ (n : Nat) (w : World), 1 ≤ n → n ≤ 9223372036854775808 → Calls Tryz.prog 24 #[.int .i64 (-(n : Int))] w fun e w' => e = .returned (.string ⟨(45 :: Lib.decDigits n).toArray⟩) ∧ Below w.heap.size w w' := by
 intro n
 induction n using Nat.strongRecOn with
 | _ n ih =>
  intro w h1 hn
  obtain ⟨r, hr⟩ : ∃ r, n % 10 = r := ⟨_, rfl⟩
  have hr10 : r < 10 := by omega
  have h0 : -(n : Int) < 0 := by omega
  obtain ⟨R, hR⟩ : ∃ R, Lib.decDigits n = R := ⟨_, rfl⟩
  rw [hR]
  by_cases h : n < 10
  ·
   have g : (-10 : Int) < -(n : Int) := by omega
   have D := ref_digits_nat n
   rw [hR] at D
   have D2 := Lib.hid (fun W => D W (by omega))
   have hRl : R.length = 1 := by rw [← hR, Lib.decDigits_one h]; rfl
   have hcat : (ByteArray.mk #[45]) ++ ⟨R.toArray⟩ = ⟨(45 :: R).toArray⟩ := str_append [45] R
   have hss : ¬ 9223372036854775807 < 1 + R.length := by omega
   have hw : IntKind.i64.wrap (- -(n : Int)) = (n : Int) := by rw [IntKind.wrap_i64]; omega
   have hw2 : wrap64 (- -(n : Int)) = (n : Int) := by unfold wrap64; omega
   clear ih hR D
   replace hcat := Lib.hid hcat
   replace hr := Lib.hid hr
   obtain ⟨m, hm⟩ : ∃ m : Int, -(n : Int) = m := ⟨_, rfl⟩
   rw [hm] at h0 g hw hw2 ⊢
   replace hm := Lib.hid hm
   go_enter Tryz.func24, Tryz.ntmps24
   go_wp2_with (go_at_call 24; (with_reducible refine (D2.out _).mono ?_); rintro e w2 ⟨rfl, hb2⟩)
   go_ret
   exact ⟨by rw [← hcat.out]; rfl, hb2⟩
  ·
   have g : ¬ (-10 : Int) < -(n : Int) := by omega
   obtain ⟨q, hq⟩ : ∃ q, n / 10 = q := ⟨_, rfl⟩
   have hR2 : R = Lib.decDigits q ++ Lib.decDigits r := by rw [← hR, decDigits_big h, hq, hr, Lib.decDigits_one hr10]
   have D := Lib.hid (fun W => ih q (by omega) W (by omega) (by omega))
   have E := Lib.hid (fun W => ref_digits_nat r W (by omega))
   have t2 : (-(n : Int)).tdiv 10 = -(q : Int) := by rw [Int.neg_tdiv, ← hq]; simp [Int.tdiv]
   have t3 : (-(n : Int)).tmod 10 = -(r : Int) := by rw [Int.neg_tmod, ← hr]; simp [Int.tmod]
   have hwq : wrap64 (-(q : Int)) = -(q : Int) := by unfold wrap64; omega
   have hwr : wrap64 (r : Int) = (r : Int) := by unfold wrap64; omega
   have hl := Lib.decDigits_length q
   have hl2 : (Lib.decDigits q).length ≤ 30 := by
    have h1 : 1 ≤ q := by omega
    have := Lib.numDigits_eq q h1 (by omega)
    rw [hl]
    split at this <;> omega
   have hl3 : (Lib.decDigits r).length = 1 := by rw [Lib.decDigits_one hr10]; rfl
   have hcat : (ByteArray.mk (45 :: Lib.decDigits q).toArray) ++ ⟨(Lib.decDigits r).toArray⟩ = ⟨(45 :: R).toArray⟩ := by rw [hR2]; exact str_append (45 :: Lib.decDigits q) (Lib.decDigits r)
   have hss : ¬ 9223372036854775807 < (45 :: Lib.decDigits q).length + (Lib.decDigits r).length := by simp; omega
   generalize 45 :: Lib.decDigits q = Q at *
   generalize Lib.decDigits r = cc at *
   clear ih hR hR2 hl hl2 hl3
   replace hcat := Lib.hid hcat
   replace hr := Lib.hid hr
   replace hq := Lib.hid hq
   obtain ⟨m, hm⟩ : ∃ m : Int, -(n : Int) = m := ⟨_, rfl⟩
   rw [hm] at h0 g t2 t3 ⊢
   replace hm := Lib.hid hm
   go_enter Tryz.func24, Tryz.ntmps24
   go_wp2_with (go_at_call 24; (first | (with_reducible refine (D.out _).mono ?_; rintro e w2 ⟨rfl, hb2⟩) | (with_reducible refine (E.out _).mono ?_; rintro e w3 ⟨rfl, hb3⟩)))
   go_ret
   exact ⟨by rw [← hcat.out]; rfl, below_chain hb3 hb2⟩
theorem ref_digits (n : Int) (w : World) (h0 : -9223372036854775808 ≤ n) (h1 : n ≤ 9223372036854775807) :
  Calls Tryz.prog 24 #[.int .i64 n] w fun e w' => e = .returned (.string ⟨(Lib.itoa n).toArray⟩) ∧ Below w.heap.size w w' := by
 unfold Lib.itoa
 by_cases h : n < 0
 ·
  rw [if_pos h]
  have := ref_digits_neg n.natAbs w (by omega) (by omega)
  rw [show -(n.natAbs : Int) = n by omega] at this
  exact this
 ·
  rw [if_neg h]
  have := ref_digits_nat n.toNat w (by omega)
  rw [show ((n.toNat : Nat) : Int) = n by omega] at this
  exact this
end Go.Proofs.YtodbgjnccngljaaGreatDoor
namespace Go.Proofs.YtodbgjnccngljaaGreatDoor
open Go Go.RowKit Go.Deep Go.Sort
def Std (w : World) : Prop := Lib.TabIs Tryz.prog w "internal/strconv.uint64pow10" .u64 Lib.pow10Tab ∧ ∃ m : Int, w.cell? ⟨0, 0, none⟩ = some (.int .i64 m)
theorem Std.below {w w' : World} (h : Std w) (hb : Below w.heap.size w w') : Std w' := by
 obtain ⟨h1, m, h2⟩ := h
 have hg : Tryz.prog.globalNamed "internal/strconv.uint64pow10" = some 1 := by kernel_rfl
 refine ⟨?_, m, (World.cell?_of_block (hb.block _ (World.block_lt_of_cell? w _ h2))).trans h2⟩
 unfold Lib.TabIs World.var? at h1 ⊢
 rw [hg] at h1 ⊢
 simp only [Option.bind_some] at h1 ⊢
 have hlt : 1 < w.heap.size := by
  rcases Nat.lt_or_ge 1 w.heap.size with h | h
  · exact h
  ·
   rw [Array.getElem?_eq_none h] at h1
   simp at h1
 rw [hb.block _ hlt]
 exact h1
theorem below_grow (w : World) (k : Nat) (os : Array Obj) : Below w.heap.size w (grow (w.drewN k) os) :=
 ⟨rfl, rfl, rfl, by unfold grow; simp, fun b hb => heap_grow_old (w.drewN k) os hb⟩
theorem std_itoa (n : Int) (w : World) (hw : Std w) (h0 : -9223372036854775808 ≤ n) (h1 : n ≤ 9223372036854775807) :
  Calls Tryz.prog 47 #[.int .i64 n] w fun e w' => e = .returned (.string ⟨(Lib.itoa n).toArray⟩) ∧ Below w.heap.size w w' := by
 refine (Tryz.strconv_Itoa n h0 h1 w hw.1).mono ?_
 rintro e w' ⟨rfl, k, os, rfl⟩
 exact ⟨rfl, below_grow w k os⟩
abbrev strs (xs : List (List UInt8)) : Array Value := (xs.map fun p => Value.string ⟨p.toArray⟩).toArray
theorem std_split (l : List UInt8) (c : UInt8) (w : World) (hw : Std w) (hl : l.length ≤ 1000000) :
  Calls Tryz.prog 45 #[.string ⟨l.toArray⟩, .string ⟨#[c]⟩] w fun e w' => e = .returned (.slice (some ⟨w.heap.size, 0, none⟩) (parts c l).length (parts c l).length) ∧ Blk w' w.heap.size 9 (strs (parts c l)) ∧ Below w.heap.size w w' := by
 obtain ⟨_, m, hm⟩ := hw
 have h1 : 1 ≤ (ByteArray.mk #[c]).size := Nat.le_refl 1
 have hdat := Lib.splitB_data (ByteArray.mk #[c]) 0 (Lib.countB ⟨l.toArray⟩ ⟨#[c]⟩) ⟨l.toArray⟩
 have hlen := Lib.splitB_all (ByteArray.mk #[c]) h1 0 _ (ByteArray.mk l.toArray) rfl
 have hk : Lib.splitK [c] 0 (Lib.count l [c]) l = parts c l := splitK_eq c l.length l (Nat.le_refl _)
 have hdat2 : (Lib.splitB ⟨#[c]⟩ 0 (Lib.countB ⟨l.toArray⟩ ⟨#[c]⟩) ⟨l.toArray⟩).map (·.data.toList) = parts c l := hdat.trans hk
 have hn : Lib.countB ⟨l.toArray⟩ ⟨#[c]⟩ + 1 = (parts c l).length := by rw [← hdat2, List.length_map, hlen]
 have hv : ((Lib.splitB ⟨#[c]⟩ 0 (Lib.countB ⟨l.toArray⟩ ⟨#[c]⟩) ⟨l.toArray⟩).map Value.string).toArray = strs (parts c l) := by
  unfold strs
  rw [← hdat2, List.map_map]
  rfl
 refine (Tryz.strings_Split ⟨l.toArray⟩ ⟨#[c]⟩ m w (by rw [str_size]; omega) hm h1).mono ?_
 rintro e w' ⟨rfl, rfl⟩
 rw [hn, hv]
 exact ⟨rfl, Blk.new w _ _, (Below.refl _ _).alloc (Nat.le_refl _) _⟩
theorem std_join (xs : List (List UInt8)) (c : UInt8) (b t : Nat) (w : World) (hB : Blk w b t (strs xs)) (hl : (Lib.join xs [c]).length ≤ 140737488355328) (hx : xs.length ≤ 1000000) :
  Calls Tryz.prog 20 #[.slice (some ⟨b, 0, none⟩) xs.length xs.length, .string ⟨#[c]⟩] w fun e w' => e = .returned (.string ⟨(Lib.join xs [c]).toArray⟩) ∧ Below w.heap.size w w' := by
 have hlt := hB.lt
 have hm : (xs.map fun p => ByteArray.mk p.toArray).map (·.data.toList) = xs := by
  rw [List.map_map]
  conv => rhs; rw [← List.map_id xs]
  rfl
 have J := Tryz.strings_Join b 0 xs.length (xs.map fun p => ByteArray.mk p.toArray) ⟨#[c]⟩ w (fun j x hj => by
  rw [Nat.zero_add, hB.cell j]
  unfold strs
  rw [List.getElem?_toArray, List.getElem?_map]
  rw [List.getElem?_map] at hj
  cases hx : xs[j]? with
  | none => rw [hx] at hj; cases hj
  | some p => rw [hx] at hj; cases hj; rfl) hlt (by rw [List.length_map]; omega) (by rw [List.length_map]; exact Nat.le_refl _) (by rw [hm]; exact hl)
 rw [List.length_map, hm] at J
 exact J
end Go.Proofs.YtodbgjnccngljaaGreatDoor
namespace Go.Proofs.YtodbgjnccngljaaGreatDoor
open Go Go.RowKit Go.Deep
def okV (o : Option (List UInt8)) : Value → Prop := fun v => match o with
 | some b => v = .tuple #[.string ⟨b.toArray⟩, .bool true]
 | none => ∃ x : ByteArray, v = .tuple #[.string x, .bool false]
set_option maxRecDepth 100000 in
set_option maxHeartbeats 4000000 in
theorem addr_group (l : List UInt8) (w : World) (hL : l.length ≤ 1000000) :
  Calls Tryz.prog 96 #[.string ⟨l.toArray⟩] w fun e w' => (∃ v, e = .returned v ∧ okV (grpL l) v) ∧ Below w.heap.size w w' := by
 have U := oct_unhex l w hL
 unfold unhexV at U
 unfold grpL
 cases hu : unhexL l with
 | none =>
  rw [hu] at U
  replace U := Lib.hid U
  replace hu := Lib.hid hu
  go_enter Tryz.func96, Tryz.ntmps96
  go_wp2_with (go_at_call 76; refine U.out.mono ?_; rintro e w2 ⟨rfl, hb2⟩)
  go_ret2
  exact ⟨⟨_, rfl, _, rfl⟩, hb2⟩
 | some b =>
  rw [hu] at U
  replace U := Lib.hid U
  have hbl := unhexL_len l b hu
  replace hu := Lib.hid hu
  have hsb : (ByteArray.mk b.toArray).size = b.length := rfl
  by_cases h2 : b.length = 2
  ·
   simp only [h2, if_true]
   have e2 : ((b.length : Int) == 2) = true := by rw [h2]; rfl
   go_enter Tryz.func96, Tryz.ntmps96
   go_wp2_with (go_at_call 76; refine U.out.mono ?_; rintro e w2 ⟨rfl, hb2⟩)
   go_ret2
   exact ⟨⟨_, rfl, rfl⟩, hb2⟩
  ·
   simp only [h2, if_false]
   have e2 : ((b.length : Int) == 2) = false := by rw [beq_eq_false_iff_ne]; omega
   go_enter Tryz.func96, Tryz.ntmps96
   go_wp2_with (go_at_call 76; refine U.out.mono ?_; rintro e w2 ⟨rfl, hb2⟩)
   go_ret2
   exact ⟨⟨_, rfl, _, rfl⟩, hb2⟩
theorem partN_drop (l : List UInt8) {j n : Nat} (h : j < l.length) : partN (l.drop j) n = if (l.getD j 0).toNat < 48 ∨ 57 < (l.getD j 0).toNat ∨ 255 < n then none else partN (l.drop (j + 1)) (10 * n + ((l.getD j 0).toNat - 48)) := by
 rw [List.drop_eq_getElem_cons h, partN, List.getD_eq_getElem?_getD, List.getElem?_eq_getElem h]
 rfl
set_option maxRecDepth 100000 in
set_option maxHeartbeats 4000000 in
theorem addr_part (l : List UInt8) (w : World) (hw : Std w) (hL : l.length ≤ 1000000) :
  Calls Tryz.prog 95 #[.string ⟨l.toArray⟩] w fun e w' => (∃ v, e = .returned v ∧ okV (partL l) v) ∧ Below w.heap.size w w' := by
 have cv := Lib.run_convert_string_bytes (P := Tryz.prog) w 9 82 5 ⟨l.toArray⟩ Tryz.underlying9 Tryz.underlying82 Tryz.underlying5
 have hbW := bytesWorld_below w 5 ⟨l.toArray⟩
 have hcell := Lib.bytesWorld_cell w 5 ⟨l.toArray⟩
 have hsz := Lib.bytesWorld_size w 5 ⟨l.toArray⟩
 rw [str_size] at hcell cv
 have hww := hw.below hbW
 generalize Lib.bytesWorld w 5 ⟨l.toArray⟩ = W at *
 obtain ⟨o, ho⟩ : ∃ o, partL l = o := ⟨_, rfl⟩
 obtain ⟨p, hp⟩ : ∃ p, partN l 0 = p := ⟨_, rfl⟩
 have hnone : p = none → o = none := fun h => by rw [← ho]; unfold partL; rw [hp, h]
 have hsome : ∀ m, p = some m → o = if m ≤ 255 ∧ dec3 m = l then some [UInt8.ofNat m] else none := fun m h => by rw [← ho]; unfold partL; rw [hp, h]
 rw [ho]
 replace hnone := Lib.hid hnone
 replace hsome := Lib.hid hsome
 clear ho
 go_enter Tryz.func95, Tryz.ntmps95
 go_wp2_with fail
 clear cv
 go_loopw [4, 10] (fun n i wr => ∃ (j m : Nat), j ≤ l.length ∧ i = .int .i64 (j : Nat) ∧ n = .int .i64 (m : Nat) ∧ m ≤ 2559 ∧ partN (l.drop j) m = p ∧ Below W.heap.size W wr) (fun _ i _ => l.length - (intOf i).toNat)
 case atStart => exact ⟨0, 0, by omega, rfl, rfl, by omega, by rw [List.drop_zero]; exact hp, Below.refl _ _⟩
 case round =>
  obtain ⟨j, m, hj, rfl, rfl, hm, hpj, hb⟩ := hrel
  by_cases hlt : j < l.length
  ·
   have hlti : (j : Int) < (l.length : Int) := by omega
   have c0 : wr.cell? ⟨w.heap.size, j, none⟩ = some (.int .u8 (l.getD j 0).toNat) := (World.cell?_of_block (hb.block _ (show w.heap.size < W.heap.size by omega))).trans (hcell j hlt)
   have hcl : (l.getD j 0).toNat < 256 := (l.getD j 0).toNat_lt
   rw [partN_drop l hlt] at hpj
   obtain ⟨c, hcd⟩ : ∃ c, (l.getD j 0).toNat = c := ⟨_, rfl⟩
   rw [hcd] at c0 hpj hcl
   replace hcd := Lib.hid hcd
   clear hcell hp
   by_cases hc : c < 48 ∨ 57 < c ∨ 255 < m
   ·
    rw [if_pos hc] at hpj
    have ho := hnone.out hpj.symm
    subst ho
    clear hpj
    rcases hc with h | h | h
    ·
     have d1 : (c : Int) < 48 := by omega
     go_wp2_with fail
     go_ret2
     exact ⟨⟨_, rfl, _, rfl⟩, hbW.trans (hb.mono (by omega))⟩
    ·
     have d1 : ¬ (c : Int) < 48 := by omega
     have d2 : (57 : Int) < (c : Int) := by omega
     go_wp2_with fail
     go_ret2
     exact ⟨⟨_, rfl, _, rfl⟩, hbW.trans (hb.mono (by omega))⟩
    ·
     by_cases d1 : (c : Int) < 48
     ·
      go_wp2_with fail
      go_ret2
      exact ⟨⟨_, rfl, _, rfl⟩, hbW.trans (hb.mono (by omega))⟩
     ·
      by_cases d2 : (57 : Int) < (c : Int)
      ·
       go_wp2_with fail
       go_ret2
       exact ⟨⟨_, rfl, _, rfl⟩, hbW.trans (hb.mono (by omega))⟩
      ·
       have d3 : (255 : Int) < (m : Int) := by omega
       go_wp2_with fail
       go_ret2
       exact ⟨⟨_, rfl, _, rfl⟩, hbW.trans (hb.mono (by omega))⟩
   ·
    rw [if_neg hc] at hpj
    have d1 : ¬ (c : Int) < 48 := by omega
    have d2 : ¬ (57 : Int) < (c : Int) := by omega
    have d3 : ¬ (255 : Int) < (m : Int) := by omega
    have hu : IntKind.u8.wrap ((c : Int) - 48) = ((c - 48 : Nat) : Int) := by rw [IntKind.wrap_u8]; omega
    have hm2 : 10 * m + (c - 48) ≤ 2559 := by omega
    obtain ⟨d, hd⟩ : ∃ d, c - 48 = d := ⟨_, rfl⟩
    rw [hd] at hu hpj hm2
    replace hpj := Lib.hid hpj
    replace hc := Lib.hid hc
    replace hd := Lib.hid hd
    go_wp2_with fail
    go_roundw
    case rel => exact ⟨j + 1, 10 * m + d, by omega, by go_num, by go_num, hm2, hpj.out, hb⟩
    case measure => simp [intOf]; omega
  ·
   have hlti : ¬ (j : Int) < (l.length : Int) := by omega
   obtain rfl : j = l.length := by omega
   rw [List.drop_length, partN] at hpj
   have hwr := hww.below hb
   have P := oct_put m 1
   have I := std_itoa (m : Int)
   have hI : Lib.itoa (m : Int) = Lib.decDigits m := Lib.itoa_nonneg m
   rw [hI] at I
   have hb1 : octB m 1 = [UInt8.ofNat m] := by rw [octB_succ]; simp [octB]
   rw [hb1, show ((1 : Nat) : Int) = 1 from rfl] at P
   have ho := hsome.out m hpj.symm
   replace ho := Lib.hid ho
   have P2 := Lib.hid (fun W => P W (by omega) (by omega))
   have I2 := Lib.hid (fun W hW => I W hW (by omega) (by omega))
   have hbr : Below w.heap.size w wr := hbW.trans (hb.mono (by omega))
   have hu : IntKind.u64.wrap (m : Int) = (m : Int) := by rw [IntKind.wrap_u64]; omega
   clear P I hI hb1 hpj hp hcell hw hww hb hbW
   by_cases h5 : m ≤ 255
   ·
    have d1 : (m : Int) ≤ 255 := by omega
    have he : Lib.decDigits m = dec3 m := dec3_eq (by omega)
    rw [he] at I2
    replace he := Lib.hid he
    have heq : (dec3 m == l) = decide (dec3 m = l) := by rw [Bool.eq_iff_iff]; simp
    obtain ⟨q, hq⟩ : ∃ q, decide (dec3 m = l) = q := ⟨_, rfl⟩
    obtain ⟨D, hD⟩ : ∃ D, dec3 m = D := ⟨_, rfl⟩
    rw [hD] at heq hq I2
    rw [hq] at heq
    replace hq := Lib.hid hq
    replace hD := Lib.hid hD
    replace hwr := Lib.hid hwr
    go_wp2_with (first
     | (go_at_call 90; (with_reducible refine (P2.out _).mono ?_); rintro e w2 ⟨rfl, hb2⟩; have hw2 := Lib.hid (hwr.out.below hb2))
     | (go_at_call 47; (with_reducible refine (I2.out _ hw2.out).mono ?_); rintro e w3 ⟨rfl, hb3⟩))
    go_ret2
    refine ⟨⟨_, rfl, ?_⟩, below_chain hb3 (below_chain hb2 hbr)⟩
    rw [ho.out, hD.out]
    by_cases hDl : D = l
    ·
     rw [if_pos ⟨h5, hDl⟩]
     have : q = true := by rw [← hq.out]; simpa using hDl
     subst this
     rfl
    ·
     rw [if_neg (fun h => hDl h.2)]
     have : q = false := by rw [← hq.out]; simpa using hDl
     subst this
     exact ⟨_, rfl⟩
   ·
    have d1 : ¬ (m : Int) ≤ 255 := by omega
    go_wp2_with (first
     | (go_at_call 90; (with_reducible refine (P2.out _).mono ?_); rintro e w2 ⟨rfl, hb2⟩))
    go_ret2
    refine ⟨⟨_, rfl, ?_⟩, below_chain hb2 hbr⟩
    rw [ho.out, if_neg (by omega)]
    exact ⟨_, rfl⟩
theorem allP_drop (f : List UInt8 → Option (List UInt8)) (ws : List (List UInt8)) {j : Nat} (h : j < ws.length) : allP f (ws.drop j) = match f (ws.getD j []) with | none => none | some b => (allP f (ws.drop (j + 1))).map (b ++ ·) := by
 rw [List.drop_eq_getElem_cons h, allP, List.getD_eq_getElem?_getD, List.getElem?_eq_getElem h]
 rfl
theorem parts_len (c : UInt8) (s : List UInt8) : (parts c s).length ≤ s.length + 1 ∧ ∀ x ∈ parts c s, x.length ≤ s.length := by
 induction s with
 | nil => simp [parts]
 | cons y r ih =>
  obtain ⟨p, ps, e⟩ := parts_cons c r
  unfold parts
  rw [e] at ih ⊢
  split
  ·
   refine ⟨by simp at ih ⊢; omega, fun x hx => ?_⟩
   rcases List.mem_cons.1 hx with rfl | hx
   · simp
   · have := ih.2 x hx; simp; omega
  ·
   refine ⟨by simp at ih ⊢; omega, fun x hx => ?_⟩
   rcases List.mem_cons.1 hx with rfl | hx
   · have := ih.2 p (by simp); simp; omega
   · have := ih.2 x (by simp at hx ⊢; exact Or.inr hx); simp; omega
theorem blk_str {w : World} {b t : Nat} {ws : List (List UInt8)} (h : Blk w b t (strs ws)) {j : Nat} (hj : j < ws.length) : w.cell? ⟨b, j, none⟩ = some (.string ⟨(ws.getD j []).toArray⟩) := by
 rw [h.cell j, List.getElem?_toArray, List.getElem?_map, List.getD_eq_getElem?_getD, List.getElem?_eq_getElem hj]
 rfl
set_option maxRecDepth 100000 in
set_option maxHeartbeats 8000000 in
theorem addr_joined (F : Nat) (f : List UInt8 → Option (List UInt8)) (k : Nat) (hf : ∀ s b, f s = some b → b.length = k)
  (hC : ∀ (s : List UInt8) (w : World), Std w → s.length ≤ 1000000 → Calls Tryz.prog F #[.string ⟨s.toArray⟩] w fun e w' => (∃ v, e = .returned v ∧ okV (f s) v) ∧ Below w.heap.size w w')
  (hE : ∀ args w, (callFunc F args).run Tryz.prog w = .ok (.enter F args) w)
  (l : List UInt8) (c : UInt8) (n : Nat) (w : World) (hw : Std w) (hL : l.length ≤ 10000) (hk : k ≤ 16) :
  Calls Tryz.prog 94 #[.string ⟨l.toArray⟩, .string ⟨#[c]⟩, .int .i64 n, .func (.func F) #[] #[]] w fun e w' => e = .returned (adrT (joinedL l c n f)) ∧ Below w.heap.size w w' := by
 have K := Blk.new w 24 #[.bool false, .int .u64 0, .int .u64 0]
 have hb0 : Below w.heap.size w (w.alloc (.cells #[.bool false, .int .u64 0, .int .u64 0] 24)) := (Below.refl _ _).alloc (Nat.le_refl _) _
 have hw0 := hw.below hb0
 obtain ⟨hpl, hpx⟩ := parts_len c l
 obtain ⟨J, hJ⟩ : ∃ J, joinedL l c n f = J := ⟨_, rfl⟩
 rw [hJ]
 replace hJ := Lib.hid hJ
 have S := Lib.hid (std_split l c _ hw0 (by omega))
 have hs0 : (w.alloc (.cells #[.bool false, .int .u64 0, .int .u64 0] 24)).heap.size = w.heap.size + 1 := by simp
 rw [hs0] at S
 obtain ⟨ws, hws⟩ : ∃ ws, parts c l = ws := ⟨_, rfl⟩
 rw [hws] at S hpl hpx
 have hJ1 : ws.length ≠ n → J = none := fun h => by rw [← hJ.out]; unfold joinedL; rw [hws, if_neg h]
 have hJ2 : ws.length = n → J = (allP f ws).bind getA := fun h => by rw [← hJ.out]; unfold joinedL; rw [hws, if_pos h]
 clear hJ hws
 by_cases hlen : ws.length = n
 ·
  have J2 := hJ2 hlen
  have e1 : ((ws.length : Int) != (n : Int)) = false := by rw [hlen]; simp
  replace J2 := Lib.hid J2
  clear hJ1 hJ2 hlen
  replace hpx := Lib.hid hpx
  go_enter Tryz.func94, Tryz.ntmps94
  go_wp2_with (go_at_call 45; refine S.out.mono ?_; rintro e w2 ⟨rfl, hB2, hb2⟩; have K1 := K.call (hb2.mono (by rw [hs0]; exact Nat.le_refl _)))
  have hbA : Below w.heap.size w w2 := hb0.trans (hb2.mono (by omega))
  clear K hb2
  go_loopw [11, 26] (fun s i wr => ∃ (j : Nat) (acc : List UInt8), j ≤ ws.length ∧ i = .int .i64 (j : Nat) ∧ s = .string ⟨acc.toArray⟩ ∧ acc.length ≤ 16 * j ∧ allP f ws = (allP f (ws.drop j)).map (acc ++ ·) ∧ Below w2.heap.size w2 wr) (fun _ i _ => ws.length - (intOf i).toNat)
  case atStart => exact ⟨0, [], by omega, rfl, rfl, by simp, by cases hh : allP f ws <;> simp [hh], Below.refl _ _⟩
  case round =>
   obtain ⟨j, acc, hj, rfl, rfl, hal, hall, hb⟩ := hrel
   have hBr := hB2.call hb
   have Kr := K1.call hb
   have hbr := below_chain hb hbA
   have hwr := hw.below hbr
   by_cases hlt : j < ws.length
   ·
    have hlti : (j : Int) < (ws.length : Int) := by omega
    have c9 := blk_str hBr hlt
    rw [allP_drop f ws hlt] at hall
    have hxl : (ws.getD j []).length ≤ l.length := hpx.out _ (by rw [List.getD_eq_getElem?_getD, List.getElem?_eq_getElem hlt]; simp)
    obtain ⟨x, hx⟩ : ∃ x, ws.getD j [] = x := ⟨_, rfl⟩
    rw [hx] at c9 hall hxl
    have C := hC x wr hwr (by omega)
    have hfx := hf x
    cases hfv : f x with
    | none =>
     rw [hfv] at hall C
     have hJn : J = none := by rw [J2.out, hall]; rfl
     subst hJn
     replace C := Lib.hid C
     clear hall hfx hfv J2
     go_wp2_with (first | (go_at_fn F; refine C.out.mono ?_; rintro e w4 ⟨⟨_, rfl, q, rfl⟩, hb4⟩; have K2 := Kr.call hb4; have hbA := below_chain hb4 hbr; obtain ⟨⟨c0, c1, c2⟩, f0, f1, f2⟩ := blk3 K2; replace K2 := Lib.hid K2))
     have K3 := blk3_set K2.out (.bool false) (.int .u64 0) (.int .u64 0); have hb3 := below_set3 hbA (Nat.le_refl _) (.bool false) (.int .u64 0) (.int .u64 0); generalize (((w4.setCell ⟨w.heap.size, 0, none⟩ (.bool false)).setCell ⟨w.heap.size, 1, none⟩ (.int .u64 0)).setCell ⟨w.heap.size, 2, none⟩ (.int .u64 0)) = w3 at *; clear c0 c1 c2 f0 f1 f2; obtain ⟨⟨c0, c1, c2⟩, f0, f1, f2⟩ := blk3 K3; replace K3 := Lib.hid K3; refine bodyPost_ret (v := .tuple #[.agg #[.bool false, .int .u64 0, .int .u64 0], .bool false]) (by simp [results, Tryz.results94, go_sem, *]) rfl ?_
     exact ⟨rfl, hb3⟩
    | some b =>
     rw [hfv] at hall C
     have hbl := hfx b hfv
     have hall2 : allP f ws = (allP f (ws.drop (j + 1))).map ((acc ++ b) ++ ·) := by
      rw [hall]
      cases allP f (ws.drop (j + 1)) <;> simp
     have hcat : (ByteArray.mk acc.toArray) ++ ⟨b.toArray⟩ = ⟨(acc ++ b).toArray⟩ := str_append acc b
     have hss : ¬ 9223372036854775807 < acc.length + b.length := by omega
     have hab : (acc ++ b).length ≤ 16 * (j + 1) := by simp; omega
     clear hall hfx hfv
     have C2 : Calls Tryz.prog F #[.string ⟨x.toArray⟩] wr fun e w' => e = .returned (.tuple #[.string ⟨b.toArray⟩, .bool true]) ∧ Below wr.heap.size wr w' := C.mono fun e w' ⟨⟨v, h1, h2⟩, h3⟩ => ⟨by rw [h1, show v = _ from h2], h3⟩
     replace C2 := Lib.hid C2
     clear C
     replace hall2 := Lib.hid hall2
     replace hcat := Lib.hid hcat
     go_wp2_with (first | (go_at_fn F; refine C2.out.mono ?_; rintro e w4 ⟨rfl, hb4⟩))
     go_roundw
     case rel => exact ⟨j + 1, acc ++ b, by omega, by go_num, by rw [← hcat.out], hab, hall2.out, below_chain hb4 hb⟩
     case measure => simp [intOf]; omega
   ·
    have hlti : ¬ (j : Int) < (ws.length : Int) := by omega
    obtain rfl : j = ws.length := by omega
    rw [List.drop_length] at hall
    have hJ : J = getA acc := by
     rw [J2.out, hall]
     show (Option.map (acc ++ ·) (some [])).bind getA = getA acc
     simp
    subst hJ
    have G := addr_get acc wr
    cases hg : getA acc with
    | none =>
     rw [hg] at G
     replace G := Lib.hid (show Calls Tryz.prog 112 #[.string ⟨acc.toArray⟩] wr fun e w' => e = .returned (.tuple #[.agg #[.bool false, .int .u64 0, .int .u64 0], .bool false]) ∧ Below wr.heap.size wr w' from G)
     replace hg := Lib.hid hg
     clear hall
     go_wp2_with (go_at_call 112; refine G.out.mono ?_; rintro e w4 ⟨rfl, hb4⟩; have K2 := Kr.call hb4; have hbA := below_chain hb4 hbr; obtain ⟨⟨c0, c1, c2⟩, f0, f1, f2⟩ := blk3 K2; replace K2 := Lib.hid K2)
     have K3 := blk3_set K2.out (.bool false) (.int .u64 0) (.int .u64 0); have hb3 := below_set3 hbA (Nat.le_refl _) (.bool false) (.int .u64 0) (.int .u64 0); generalize (((w4.setCell ⟨w.heap.size, 0, none⟩ (.bool false)).setCell ⟨w.heap.size, 1, none⟩ (.int .u64 0)).setCell ⟨w.heap.size, 2, none⟩ (.int .u64 0)) = w3 at *; clear c0 c1 c2 f0 f1 f2; obtain ⟨⟨c0, c1, c2⟩, f0, f1, f2⟩ := blk3 K3; replace K3 := Lib.hid K3; refine bodyPost_ret (v := .tuple #[.agg #[.bool false, .int .u64 0, .int .u64 0], .bool false]) (by simp [results, Tryz.results94, go_sem, *]) rfl ?_
     exact ⟨by rw [hg.out]; rfl, hb3⟩
    | some r =>
     obtain ⟨v, hi, lo⟩ := r
     rw [hg] at G
     replace G := Lib.hid (show Calls Tryz.prog 112 #[.string ⟨acc.toArray⟩] wr fun e w' => e = .returned (.tuple #[.agg #[.bool v, .int .u64 (hi : Nat), .int .u64 (lo : Nat)], .bool true]) ∧ Below wr.heap.size wr w' from G)
     replace hg := Lib.hid hg
     clear hall
     go_wp2_with (go_at_call 112; refine G.out.mono ?_; rintro e w4 ⟨rfl, hb4⟩; have K2 := Kr.call hb4; have hbA := below_chain hb4 hbr; obtain ⟨⟨c0, c1, c2⟩, f0, f1, f2⟩ := blk3 K2; replace K2 := Lib.hid K2)
     have K3 := blk3_set K2.out (.bool v) (.int .u64 (hi : Nat)) (.int .u64 (lo : Nat)); have hb3 := below_set3 hbA (Nat.le_refl _) (.bool v) (.int .u64 (hi : Nat)) (.int .u64 (lo : Nat)); generalize (((w4.setCell ⟨w.heap.size, 0, none⟩ (.bool v)).setCell ⟨w.heap.size, 1, none⟩ (.int .u64 (hi : Nat))).setCell ⟨w.heap.size, 2, none⟩ (.int .u64 (lo : Nat))) = w3 at *; clear c0 c1 c2 f0 f1 f2; obtain ⟨⟨c0, c1, c2⟩, f0, f1, f2⟩ := blk3 K3; replace K3 := Lib.hid K3; refine bodyPost_ret (v := .tuple #[.agg #[.bool v, .int .u64 (hi : Nat), .int .u64 (lo : Nat)], .bool true]) (by simp [results, Tryz.results94, go_sem, *]) rfl ?_
     exact ⟨by rw [hg.out]; rfl, hb3⟩
 ·
  have hJ := hJ1 hlen
  subst hJ
  have e1 : ((ws.length : Int) == (n : Int)) = false := by rw [beq_eq_false_iff_ne]; omega
  clear hJ1 hJ2 hlen
  go_enter Tryz.func94, Tryz.ntmps94
  go_wp2_with (go_at_call 45; refine S.out.mono ?_; rintro e w4 ⟨rfl, hB2, hb2⟩; have K2 := K.call (hb2.mono (by rw [hs0]; exact Nat.le_refl _)); have hbA : Below w.heap.size w w4 := hb0.trans (hb2.mono (by omega)); obtain ⟨⟨c0, c1, c2⟩, f0, f1, f2⟩ := blk3 K2; replace K2 := Lib.hid K2)
  have K3 := blk3_set K2.out (.bool false) (.int .u64 0) (.int .u64 0); have hb3 := below_set3 hbA (Nat.le_refl _) (.bool false) (.int .u64 0) (.int .u64 0); generalize (((w4.setCell ⟨w.heap.size, 0, none⟩ (.bool false)).setCell ⟨w.heap.size, 1, none⟩ (.int .u64 0)).setCell ⟨w.heap.size, 2, none⟩ (.int .u64 0)) = w3 at *; clear c0 c1 c2 f0 f1 f2; obtain ⟨⟨c0, c1, c2⟩, f0, f1, f2⟩ := blk3 K3; replace K3 := Lib.hid K3; refine bodyPost_ret (v := .tuple #[.agg #[.bool false, .int .u64 0, .int .u64 0], .bool false]) (by simp [results, Tryz.results94, go_sem, *]) rfl ?_
  exact ⟨rfl, hb3⟩
end Go.Proofs.YtodbgjnccngljaaGreatDoor
namespace Go.Proofs.YtodbgjnccngljaaGreatDoor
open Go Go.RowKit Go.Deep Go.Shelf
theorem part_len (s b : List UInt8) (h : partL s = some b) : b.length = 1 := by
 obtain ⟨c, rfl, _⟩ := partL_inv h; rfl
theorem grp_len (s b : List UInt8) (h : grpL s = some b) : b.length = 2 := (grpL_inv h).1
theorem adr_lit {o : Option (Bool × Nat × Nat)} : (o = none ∧ adrT o = .tuple #[.agg #[.bool false, .int .u64 0, .int .u64 0], .bool false]) ∨ ∃ v hi lo, o = some (v, hi, lo) ∧ adrT o = .tuple #[.agg #[.bool v, .int .u64 (hi : Nat), .int .u64 (lo : Nat)], .bool true] := by
 rcases o with _ | ⟨v, hi, lo⟩
 · exact Or.inl ⟨rfl, rfl⟩
 · exact Or.inr ⟨v, hi, lo, rfl, rfl⟩
set_option maxRecDepth 100000 in
set_option maxHeartbeats 8000000 in
theorem addr_read (l : List UInt8) (w : World) (hw : Std w) (hL : l.length ≤ 10000) :
  Calls Tryz.prog 77 #[.string ⟨l.toArray⟩] w fun e w' => e = .returned (adrT (readA l)) ∧ Below w.heap.size w w' := by
 have K := Blk.new w 24 #[.bool false, .int .u64 0, .int .u64 0]
 have hb0 : Below w.heap.size w (w.alloc (.cells #[.bool false, .int .u64 0, .int .u64 0] 24)) := (Below.refl _ _).alloc (Nat.le_refl _) _
 have hw0 := hw.below hb0
 have P := addr_joined 95 partL 1 part_len (fun s w hw hl => addr_part s w hw hl) (enters_of Tryz.func95 (by kernel_rfl) rfl) l 46 4
 have G := addr_joined 96 grpL 2 grp_len (fun s w _ hl => addr_group s w hl) (enters_of Tryz.func96 (by kernel_rfl) rfl) l 58 8
 rw [show ((4 : Nat) : Int) = 4 from rfl] at P
 rw [show ((8 : Nat) : Int) = 8 from rfl] at G
 have P2 := P _ hw0 hL (by omega)
 have G2 := fun W hW => G W hW hL (by omega)
 obtain ⟨r, hr⟩ : ∃ r, readA l = r := ⟨_, rfl⟩
 rw [hr]
 unfold readA at hr
 obtain ⟨o1, ho1⟩ : ∃ o, joinedL l 46 4 partL = o := ⟨_, rfl⟩
 obtain ⟨o2, ho2⟩ : ∃ o, joinedL l 58 8 grpL = o := ⟨_, rfl⟩
 rw [ho1] at P2 hr
 rw [ho2] at G2 hr
 clear P G ho1 ho2
 rcases adr_lit (o := o1) with ⟨rfl, e1⟩ | ⟨v, hi, lo, rfl, e1⟩
 ·
  rw [e1] at P2
  have hr2 : o2 = r := hr
  subst hr2
  replace P2 := Lib.hid P2
  clear e1 hr
  rcases adr_lit (o := o2) with ⟨rfl, e2⟩ | ⟨v, hi, lo, rfl, e2⟩
  ·
   rw [e2] at G2 ⊢
   replace G2 := Lib.hid G2
   clear e2
   go_enter Tryz.func77, Tryz.ntmps77
   go_wp2_with (first
    | (go_at_call 94; (with_reducible refine P2.out.mono ?_); rintro e w2 ⟨rfl, hb2⟩; have K1 := K.call hb2; have hbA := below_chain hb2 hb0)
    | (go_at_call 94; (with_reducible refine (G2.out _ (hw.below (below_alloc hbA _))).mono ?_); rintro e w4 ⟨rfl, hb4⟩; have K2 := (K1.alloc _).call hb4; have hbA := below_chain hb4 (below_alloc hbA _); obtain ⟨⟨c0, c1, c2⟩, f0, f1, f2⟩ := blk3 K2; replace K2 := Lib.hid K2))
   have K3 := blk3_set K2.out (.bool false) (.int .u64 0) (.int .u64 0); have hb3 := below_set3 hbA (Nat.le_refl _) (.bool false) (.int .u64 0) (.int .u64 0); generalize (((w4.setCell ⟨w.heap.size, 0, none⟩ (.bool false)).setCell ⟨w.heap.size, 1, none⟩ (.int .u64 0)).setCell ⟨w.heap.size, 2, none⟩ (.int .u64 0)) = w3 at *; clear c0 c1 c2 f0 f1 f2; obtain ⟨⟨c0, c1, c2⟩, f0, f1, f2⟩ := blk3 K3; replace K3 := Lib.hid K3; refine bodyPost_ret (v := .tuple #[.agg #[.bool false, .int .u64 0, .int .u64 0], .bool false]) (by simp [results, Tryz.results77, go_sem, *]) rfl ?_
   exact ⟨rfl, hb3⟩
  ·
   rw [e2] at G2 ⊢
   replace G2 := Lib.hid G2
   clear e2
   go_enter Tryz.func77, Tryz.ntmps77
   go_wp2_with (first
    | (go_at_call 94; (with_reducible refine P2.out.mono ?_); rintro e w2 ⟨rfl, hb2⟩; have K1 := K.call hb2; have hbA := below_chain hb2 hb0)
    | (go_at_call 94; (with_reducible refine (G2.out _ (hw.below (below_alloc hbA _))).mono ?_); rintro e w4 ⟨rfl, hb4⟩; have K2 := (K1.alloc _).call hb4; have hbA := below_chain hb4 (below_alloc hbA _); obtain ⟨⟨c0, c1, c2⟩, f0, f1, f2⟩ := blk3 K2; replace K2 := Lib.hid K2))
   have K3 := blk3_set K2.out (.bool v) (.int .u64 (hi : Nat)) (.int .u64 (lo : Nat)); have hb3 := below_set3 hbA (Nat.le_refl _) (.bool v) (.int .u64 (hi : Nat)) (.int .u64 (lo : Nat)); generalize (((w4.setCell ⟨w.heap.size, 0, none⟩ (.bool v)).setCell ⟨w.heap.size, 1, none⟩ (.int .u64 (hi : Nat))).setCell ⟨w.heap.size, 2, none⟩ (.int .u64 (lo : Nat))) = w3 at *; clear c0 c1 c2 f0 f1 f2; obtain ⟨⟨c0, c1, c2⟩, f0, f1, f2⟩ := blk3 K3; replace K3 := Lib.hid K3; refine bodyPost_ret (v := .tuple #[.agg #[.bool v, .int .u64 (hi : Nat), .int .u64 (lo : Nat)], .bool true]) (by simp [results, Tryz.results77, go_sem, *]) rfl ?_
   exact ⟨rfl, hb3⟩
 ·
  have hr2 : some (v, hi, lo) = r := hr
  subst hr2
  rw [e1] at P2 ⊢
  replace P2 := Lib.hid P2
  clear e1 hr G2
  go_enter Tryz.func77, Tryz.ntmps77
  go_upto_region 3 with (first
    | (go_at_call 94; (with_reducible refine P2.out.mono ?_); rintro e w2 ⟨rfl, hb2⟩; have K1 := K.call hb2; have hbA := below_chain hb2 hb0))
  have K6 := Blk.new w2 24 #[.bool v, .int .u64 (hi : Nat), .int .u64 (lo : Nat)]
  have K2 := K1.alloc (.cells #[.bool v, .int .u64 (hi : Nat), .int .u64 (lo : Nat)] 24)
  replace hbA := below_alloc hbA (.cells #[.bool v, .int .u64 (hi : Nat), .int .u64 (lo : Nat)] 24)
  generalize w2.alloc (.cells #[.bool v, .int .u64 (hi : Nat), .int .u64 (lo : Nat)] 24) = w4 at *
  obtain ⟨⟨d0, d1, d2⟩, g0, g1, g2⟩ := blk3 K6
  obtain ⟨⟨c0, c1, c2⟩, f0, f1, f2⟩ := blk3 K2
  clear K K1 K6 hb2 hb0 hw0
  replace K2 := Lib.hid K2
  go_wp2_with fail
  clear d0 d1 d2 g0 g1 g2
  have K3 := blk3_set K2.out (.bool v) (.int .u64 (hi : Nat)) (.int .u64 (lo : Nat)); have hb3 := below_set3 hbA (Nat.le_refl _) (.bool v) (.int .u64 (hi : Nat)) (.int .u64 (lo : Nat)); generalize (((w4.setCell ⟨w.heap.size, 0, none⟩ (.bool v)).setCell ⟨w.heap.size, 1, none⟩ (.int .u64 (hi : Nat))).setCell ⟨w.heap.size, 2, none⟩ (.int .u64 (lo : Nat))) = w3 at *; clear c0 c1 c2 f0 f1 f2; obtain ⟨⟨c0, c1, c2⟩, f0, f1, f2⟩ := blk3 K3; replace K3 := Lib.hid K3; refine bodyPost_ret (v := .tuple #[.agg #[.bool v, .int .u64 (hi : Nat), .int .u64 (lo : Nat)], .bool true]) (by simp [results, Tryz.results77, go_sem, *]) rfl ?_
  exact ⟨rfl, hb3⟩
end Go.Proofs.YtodbgjnccngljaaGreatDoor
namespace Go.Proofs.YtodbgjnccngljaaGreatDoor
open Go Go.RowKit Go.Deep
def strF (ws : List (List UInt8)) (j : Nat) : Nat → Value := fun i => if i < j then .string ⟨(ws.getD i []).toArray⟩ else .string ⟨#[]⟩
theorem strF_blk {w : World} {g n t : Nat} {ws : List (List UInt8)} (h : w.rowIs g t n (strF ws n)) (hn : ws.length = n) : Blk w g t (strs ws) := by
 obtain ⟨c, h1, h2, h3⟩ := h
 have : c = strs ws := by
  apply Array.ext
  · simp [h2, hn]
  ·
   intro i hi1 hi2
   have hin : i < n := by omega
   have := h3 i hin
   rw [Array.getElem?_eq_getElem hi1] at this
   rw [Option.some.inj this]
   unfold strF
   rw [if_pos hin, List.getD_eq_getElem?_getD, List.getElem?_eq_getElem (by omega)]
   simp
 rw [← this]
 exact h1
theorem strF_next {w : World} {g n t j : Nat} {ws : List (List UInt8)} (h : w.rowIs g t n (strF ws j)) : (w.setCell ⟨g, j, none⟩ (.string ⟨(ws.getD j []).toArray⟩)).rowIs g t n (strF ws (j + 1)) :=
 (h.set j _).congr fun i hi => by
  by_cases e : i = j
  · rw [if_pos e, e]; unfold strF; rw [if_pos (by omega)]
  ·
   rw [if_neg e]
   unfold strF
   by_cases e2 : i < j
   · rw [if_pos e2, if_pos (by omega)]
   · rw [if_neg e2, if_neg (by omega)]
theorem strF_old {w : World} {g n t j : Nat} {ws : List (List UInt8)} (h : w.rowIs g t n (strF ws j)) (hj : j < n) : w.cell? ⟨g, j, none⟩ = some (.string ⟨#[]⟩) := by
 rw [h.cell hj]; unfold strF; rw [if_neg (by omega)]
theorem join_len_le (c : UInt8) (m : Nat) : ∀ ws : List (List UInt8), (∀ x ∈ ws, x.length ≤ m) → (Lib.join ws [c]).length ≤ ws.length * (m + 1)
 | [], _ => by simp [Lib.join_nil]
 | [x], h => by rw [Lib.join_one]; have := h x (by simp); simp; omega
 | x :: y :: t, h => by
  have ih := join_len_le c m (y :: t) (fun z hz => h z (List.mem_cons_of_mem _ hz))
  have := h x (by simp)
  rw [join_cons2, List.length_append, List.length_cons, List.length_cons, Nat.succ_mul]
  omega
theorem dec3_len (n : Nat) : (dec3 n).length ≤ 3 := by
 unfold dec3
 split
 · simp
 · split <;> simp
set_option maxRecDepth 100000 in
set_option maxHeartbeats 8000000 in
theorem addr_text (v : Bool) (hi lo : Nat) (w : World) (hw : Std w) :
  Calls Tryz.prog 50 #[.agg #[.bool v, .int .u64 (hi : Nat), .int .u64 (lo : Nat)]] w fun e w' => e = .returned (.string ⟨(adrTxt v hi lo).toArray⟩) ∧ Below w.heap.size w w' := by
 have hb0 : Below w.heap.size w (w.alloc (.cells #[.bool v, .int .u64 (hi : Nat), .int .u64 (lo : Nat)] 24)) := (Below.refl _ _).alloc (Nat.le_refl _) _
 have P := Lib.hid (addr_put v hi lo)
 obtain ⟨r, hr⟩ : ∃ r, adrTxt v hi lo = r := ⟨_, rfl⟩
 rw [hr]
 unfold adrTxt at hr
 have hbl := adrPut_len v hi lo
 obtain ⟨b, hb⟩ : ∃ b, adrPut v hi lo = b := ⟨_, rfl⟩
 rw [hb] at P hr hbl
 have hsb : (ByteArray.mk b.toArray).size = b.length := rfl
 clear hb
 by_cases h4 : b.length = 4
 ·
  have e4 : ((b.length : Int) == 4) = true := by rw [h4]; rfl
  simp only [h4, if_true] at hr
  go_enter Tryz.func50, Tryz.ntmps50
  go_upto_region 5 with (go_at_call 71; (with_reducible refine (P.out _).mono ?_); rintro e w2 ⟨rfl, hb2⟩)
  have r0 : (w2.alloc (.cells #[.string ⟨#[]⟩, .string ⟨#[]⟩, .string ⟨#[]⟩, .string ⟨#[]⟩] 104)).rowIs w2.heap.size 104 4 (strF (b.map fun c => dec3 c.toNat) 0) :=
   World.rowIs_alloc w2 _ _ _ (fun i hi => by
    have hi4 : i < 4 := hi
    have : i = 0 ∨ i = 1 ∨ i = 2 ∨ i = 3 := by omega
    rcases this with rfl | rfl | rfl | rfl <;> rfl)
  have hbA := below_alloc (below_chain hb2 hb0) (.cells #[.string ⟨#[]⟩, .string ⟨#[]⟩, .string ⟨#[]⟩, .string ⟨#[]⟩] 104)
  have hg : w.heap.size ≤ w2.heap.size := Nat.le_trans hb0.size hb2.size
  have hsA : (w2.alloc (.cells #[.string ⟨#[]⟩, .string ⟨#[]⟩, .string ⟨#[]⟩, .string ⟨#[]⟩] 104)).heap.size = w2.heap.size + 1 := by simp
  generalize w2.alloc (.cells #[.string ⟨#[]⟩, .string ⟨#[]⟩, .string ⟨#[]⟩, .string ⟨#[]⟩] 104) = wA at *
  clear hb2 hb0
  generalize w2.heap.size = g at *
  have cv := Lib.run_convert_string_bytes (P := Tryz.prog) wA 9 82 5 ⟨b.toArray⟩ Tryz.underlying9 Tryz.underlying82 Tryz.underlying5
  have hbW := bytesWorld_below wA 5 ⟨b.toArray⟩
  have hcell := Lib.bytesWorld_cell wA 5 ⟨b.toArray⟩
  have hsz := Lib.bytesWorld_size wA 5 ⟨b.toArray⟩
  rw [str_size] at hcell cv
  generalize Lib.bytesWorld wA 5 ⟨b.toArray⟩ = W at *
  have rW := rowIs_call r0 hbW
  have hbB := below_chain hbW hbA
  clear r0 hbW hbA
  rw [hsA] at cv hcell hsz
  obtain ⟨ws, hws⟩ : ∃ ws, b.map (fun c => dec3 c.toNat) = ws := ⟨_, rfl⟩
  have hwl : ws.length = 4 := by rw [← hws, List.length_map, h4]
  have hwj : ∀ j, j < 4 → ws.getD j [] = dec3 (b.getD j 0).toNat := fun j hj => by
   rw [← hws, List.getD_eq_getElem?_getD, List.getElem?_map, List.getD_eq_getElem?_getD, List.getElem?_eq_getElem (by omega)]; rfl
  have hrj : r = Lib.join ws [46] := by rw [← hr, ← hws]; rfl
  have hjl : (Lib.join ws [46]).length ≤ 140737488355328 := by
   have := join_len_le 46 3 ws (fun x hx => by rw [← hws] at hx; obtain ⟨c, _, rfl⟩ := List.mem_map.1 hx; exact dec3_len _)
   omega
  replace hjl := Lib.hid hjl
  rw [hws] at rW
  rw [h4] at cv hcell
  clear hr hws
  replace hrj := Lib.hid hrj
  go_wp2_with fail
  clear cv
  go_loopw [18] (fun i wr => ∃ j : Nat, j ≤ 4 ∧ i = .int .i64 (j : Nat) ∧ wr.rowIs g 104 4 (strF ws j) ∧ Chg (· = g) W wr) (fun i _ => 4 - (intOf i).toNat)
  case atStart => exact ⟨0, by omega, rfl, rW, Chg.refl _ _⟩
  case round =>
   obtain ⟨j, hj, rfl, hR, hc⟩ := hrel
   have hbr : Below w.heap.size w wr := hbB.trans (hc.below (fun k hk e => by omega) (Nat.le_trans hbB.size (Nat.le_refl _)))
   have hwr := hw.below hbr
   by_cases hlt : j < 4
   ·
    have hlti : (j : Int) < 4 := by omega
    have c0 : wr.cell? ⟨g + 1, j, none⟩ = some (.int .u8 (b.getD j 0).toNat) := (cell_chg hc (show g + 1 < W.heap.size by omega) (show ¬ (g + 1 = g) by omega)).trans (hcell j hlt)
    have hcl : (b.getD j 0).toNat < 256 := (b.getD j 0).toNat_lt
    have hn := hwj j hlt
    obtain ⟨c, hcd⟩ : ∃ c, (b.getD j 0).toNat = c := ⟨_, rfl⟩
    rw [hcd] at c0 hn hcl
    have I := std_itoa (c : Int) wr hwr (by omega) (by omega)
    have hI : Lib.itoa (c : Int) = Lib.decDigits c := Lib.itoa_nonneg c
    rw [hI, dec3_eq (by omega), ← hn] at I
    replace I := Lib.hid I
    replace hcd := Lib.hid hcd
    replace hn := Lib.hid hn
    have hu : IntKind.i64.wrap (c : Int) = (c : Int) := by rw [IntKind.wrap_i64]; omega
    have hfin : ∀ w3, Below wr.heap.size wr w3 → ((w3.setCell ⟨g, j, none⟩ (.string ⟨(ws.getD j []).toArray⟩)).rowIs g 104 4 (strF ws (j + 1)) ∧ Chg (· = g) W (w3.setCell ⟨g, j, none⟩ (.string ⟨(ws.getD j []).toArray⟩))) := fun w3 hb3 =>
     ⟨strF_next (rowIs_call hR hb3), (hc.trans (Chg.of_below (F := (· = g)) hb3) (fun _ _ h => h)).setCell (p := ⟨g, j, none⟩) (fun _ => rfl) _⟩
    replace hfin := Lib.hid hfin
    replace hR := Lib.hid hR
    generalize ws.getD j [] = t at *
    clear hwj hcell
    go_wp2_with (go_at_call 47; (with_reducible refine I.out.mono ?_); rintro e w3 ⟨rfl, hb3⟩; have d0 := strF_old (rowIs_call hR.out hb3) hlt; have g0 := (rowIs_call hR.out hb3).frozen j)
    obtain ⟨z1, z2⟩ := hfin.out w3 hb3
    replace z1 := Lib.hid z1
    go_roundw
    case rel => exact ⟨j + 1, by omega, by go_num, z1.out, z2⟩
    case measure => simp [intOf]; omega
   ·
    have hlti : ¬ (j : Int) < 4 := by omega
    obtain rfl : j = 4 := by omega
    have hB := strF_blk hR hwl
    have J := std_join ws 46 g _ wr hB hjl.out (by omega)
    rw [hwl, ← hrj.out] at J
    replace J := Lib.hid J
    clear hR hB hwj hcell
    go_wp2_with (go_at_call 20; (with_reducible refine J.out.mono ?_); rintro e w3 ⟨rfl, hb3⟩)
    go_ret
    exact ⟨rfl, below_chain hb3 hbr⟩
 ·
  have e4 : ((b.length : Int) == 4) = false := by rw [beq_eq_false_iff_ne]; omega
  simp only [h4, if_false] at hr
  by_cases h16 : b.length = 16
  ·
   have e16 : ((b.length : Int) == 16) = true := by rw [h16]; rfl
   simp only [h16, if_true] at hr
   go_enter Tryz.func50, Tryz.ntmps50
   go_upto_region 13 with (go_at_call 71; (with_reducible refine (P.out _).mono ?_); rintro e w2 ⟨rfl, hb2⟩)
   have r0 : (w2.alloc (.cells #[.string ⟨#[]⟩, .string ⟨#[]⟩, .string ⟨#[]⟩, .string ⟨#[]⟩, .string ⟨#[]⟩, .string ⟨#[]⟩, .string ⟨#[]⟩, .string ⟨#[]⟩] 105)).rowIs w2.heap.size 105 8 (strF ((prs b).map hexL) 0) :=
    World.rowIs_alloc w2 _ _ _ (fun i hi => by
     have hi4 : i < 8 := hi
     have : i = 0 ∨ i = 1 ∨ i = 2 ∨ i = 3 ∨ i = 4 ∨ i = 5 ∨ i = 6 ∨ i = 7 := by omega
     rcases this with rfl | rfl | rfl | rfl | rfl | rfl | rfl | rfl <;> rfl)
   have hbA := below_alloc (below_chain hb2 hb0) (.cells #[.string ⟨#[]⟩, .string ⟨#[]⟩, .string ⟨#[]⟩, .string ⟨#[]⟩, .string ⟨#[]⟩, .string ⟨#[]⟩, .string ⟨#[]⟩, .string ⟨#[]⟩] 105)
   have hg : w.heap.size ≤ w2.heap.size := Nat.le_trans hb0.size hb2.size
   generalize w2.alloc (.cells #[.string ⟨#[]⟩, .string ⟨#[]⟩, .string ⟨#[]⟩, .string ⟨#[]⟩, .string ⟨#[]⟩, .string ⟨#[]⟩, .string ⟨#[]⟩, .string ⟨#[]⟩] 105) = W at *
   clear hb2 hb0
   generalize w2.heap.size = g at *
   obtain ⟨ws, hws⟩ : ∃ ws, (prs b).map hexL = ws := ⟨_, rfl⟩
   obtain ⟨_, hpl, hp2⟩ := flatten_prs 8 b (by omega)
   have hwl : ws.length = 8 := by rw [← hws, List.length_map, hpl]
   have hwj : ∀ j, j < 8 → ws.getD j [] = hexL ((b.drop (2 * j)).take 2) := fun j hj => by
    rw [← hws, List.getD_eq_getElem?_getD, List.getElem?_map, prs_at j b (by omega)]; rfl
   have hrj : r = Lib.join ws [58] := by rw [← hr, ← hws]; rfl
   have hjl : (Lib.join ws [58]).length ≤ 140737488355328 := by
    have := join_len_le 58 4 ws (fun x hx => by
     rw [← hws] at hx
     obtain ⟨c, hc, rfl⟩ := List.mem_map.1 hx
     rw [hexL_len, hp2 c hc]
     exact Nat.le_refl 4)
    omega
   replace hjl := Lib.hid hjl
   rw [hws] at r0
   clear hr hws hp2
   replace hrj := Lib.hid hrj
   go_wp2_with fail
   go_loopw [33] (fun i wr => ∃ j : Nat, j ≤ 8 ∧ i = .int .i64 (j : Nat) ∧ wr.rowIs g 105 8 (strF ws j) ∧ Chg (· = g) W wr) (fun i _ => 8 - (intOf i).toNat)
   case atStart => exact ⟨0, by omega, rfl, r0, Chg.refl _ _⟩
   case round =>
    obtain ⟨j, hj, rfl, hR, hc⟩ := hrel
    have hbr : Below w.heap.size w wr := hbA.trans (hc.below (fun k hk e => by omega) (Nat.le_trans hbA.size (Nat.le_refl _)))
    by_cases hlt : j < 8
    ·
     have hlti : (j : Int) < 8 := by omega
     have hn := hwj j hlt
     have sl : ∀ W, (Instr.slice 9 (.string ⟨b.toArray⟩) (some (.int .i64 (2 * (j : Int)))) (some (.int .i64 (2 * (j : Int) + 2))) none).run Tryz.prog W = .ok (.string ⟨((b.drop (2 * j)).take 2).toArray⟩) W := fun W => by
      have := slice_piece b (2 * j) (2 * j + 2) W (by omega) (by omega)
      rw [show 2 * j + 2 - 2 * j = 2 by omega, show ((2 * j : Nat) : Int) = 2 * (j : Int) by omega, show ((2 * j + 2 : Nat) : Int) = 2 * (j : Int) + 2 by omega] at this
      exact this
     have I := fun W => oct_hex ((b.drop (2 * j)).take 2) W (by rw [List.length_take]; omega)
     rw [← hn] at I
     generalize (b.drop (2 * j)).take 2 = q at *
     replace I := Lib.hid I
     replace hn := Lib.hid hn
     have hfin : ∀ w3, Below wr.heap.size wr w3 → ((w3.setCell ⟨g, j, none⟩ (.string ⟨(ws.getD j []).toArray⟩)).rowIs g 105 8 (strF ws (j + 1)) ∧ Chg (· = g) W (w3.setCell ⟨g, j, none⟩ (.string ⟨(ws.getD j []).toArray⟩))) := fun w3 hb3 =>
      ⟨strF_next (rowIs_call hR hb3), (hc.trans (Chg.of_below (F := (· = g)) hb3) (fun _ _ h => h)).setCell (p := ⟨g, j, none⟩) (fun _ => rfl) _⟩
     replace hfin := Lib.hid hfin
     replace hR := Lib.hid hR
     generalize ws.getD j [] = t at *
     clear hwj
     go_wp2_with (go_at_call 70; (with_reducible refine (I.out _).mono ?_); rintro e w3 ⟨rfl, hb3⟩; have d0 := strF_old (rowIs_call hR.out hb3) hlt; have g0 := (rowIs_call hR.out hb3).frozen j)
     obtain ⟨z1, z2⟩ := hfin.out w3 hb3
     replace z1 := Lib.hid z1
     go_roundw
     case rel => exact ⟨j + 1, by omega, by go_num, z1.out, z2⟩
     case measure => simp [intOf]; omega
    ·
     have hlti : ¬ (j : Int) < 8 := by omega
     obtain rfl : j = 8 := by omega
     have hB := strF_blk hR hwl
     have J := std_join ws 58 g _ wr hB hjl.out (by omega)
     rw [hwl, ← hrj.out] at J
     replace J := Lib.hid J
     clear hR hB hwj
     go_wp2_with (go_at_call 20; (with_reducible refine J.out.mono ?_); rintro e w3 ⟨rfl, hb3⟩)
     go_ret
     exact ⟨rfl, below_chain hb3 hbr⟩
  ·
   have e16 : ((b.length : Int) == 16) = false := by rw [beq_eq_false_iff_ne]; omega
   simp only [h16, if_false] at hr
   subst hr
   go_enter Tryz.func50, Tryz.ntmps50
   go_wp2_with (go_at_call 71; (with_reducible refine (P.out _).mono ?_); rintro e w2 ⟨rfl, hb2⟩)
   go_ret
   exact ⟨rfl, below_chain hb2 hb0⟩
end Go.Proofs.YtodbgjnccngljaaGreatDoor
namespace Go.Proofs.YtodbgjnccngljaaGreatDoor
open Go
theorem join_snoc (c : UInt8) (x : List UInt8) : ∀ ws : List (List UInt8), ws ≠ [] → Lib.join (ws ++ [x]) [c] = Lib.join ws [c] ++ c :: x
 | [], h => absurd rfl h
 | [y], _ => by rw [List.singleton_append, join_cons2, Lib.join_one, Lib.join_one]
 | y :: z :: t, _ => by
  have ih := join_snoc c x (z :: t) (by simp)
  rw [List.cons_append, List.cons_append, join_cons2, join_cons2]
  rw [List.cons_append] at ih
  rw [ih]; simp
def numStep (n : Nat) (c : UInt8) : Nat := if 48 ≤ c.toNat ∧ c.toNat ≤ 57 ∧ n < 576460752303423488 then 10 * n + (c.toNat - 48) else n
def numL (l : List UInt8) : Nat := if l.length < 20 then l.foldl numStep 0 else 0
theorem numStep_lt {n : Nat} (c : UInt8) (h : n < 5764607523034234890) : numStep n c < 5764607523034234890 := by
 unfold numStep; split <;> omega
theorem numFold_lt (l : List UInt8) : ∀ n, n < 5764607523034234890 → l.foldl numStep n < 5764607523034234890 := by
 induction l with
 | nil => intro n h; exact h
 | cons c l ih => intro n h; exact ih _ (numStep_lt c h)
theorem numFold_dec (u : Nat) : u ≤ 4611686018427387904 → (Lib.decDigits u).foldl numStep 0 = u := by
 induction u using Nat.strongRecOn with
 | _ u ih =>
  intro hu
  by_cases h : u < 10
  ·
   rw [Lib.decDigits_one h]
   show numStep 0 (UInt8.ofNat (48 + u)) = u
   unfold numStep
   rw [dig_toNat h, if_pos (by omega)]; omega
  ·
   rw [decDigits_big h, List.foldl_append, ih (u / 10) (by omega) (by omega)]
   show numStep (u / 10) (UInt8.ofNat (48 + u % 10)) = u
   unfold numStep
   rw [dig_toNat (by omega), if_pos (by omega)]; omega
theorem dec_len19 (u : Nat) (h : u < 10000000000000000000) : (Lib.decDigits u).length ≤ 19 := by
 rw [Lib.decDigits_length]
 by_cases h1 : 1 ≤ u
 ·
  rcases Nat.lt_or_ge 19 (Lib.nDigits u) with h2 | h2
  ·
   obtain ⟨k, hk⟩ : ∃ k, Lib.nDigits u = k + 1 := ⟨Lib.nDigits u - 1, by omega⟩
   have := Lib.numDigits_eq u h1 (by omega)
   have hk20 : Lib.nDigits u ≤ 20 := by split at this <;> omega
   have hk19 : Lib.nDigits u = 20 := by omega
   exfalso
   have hlo : ∀ (k v : Nat), Lib.nDigits v = k + 1 → 1 ≤ v → 10 ^ k ≤ v := by
    intro k
    induction k with
    | zero => intro v _ hv; simpa using hv
    | succ k ihk =>
     intro v hv _
     by_cases hs : v < 10
     · rw [Lib.nDigits_small hs] at hv; omega
     ·
      rw [Lib.nDigits_big hs] at hv
      have := ihk (v / 10) (by omega) (by omega)
      rw [Nat.pow_succ]; omega
   have := hlo 19 u hk19 h1
   omega
  · exact h2
 · rw [Lib.nDigits_small (by omega)]; omega
theorem numL_dec (u : Nat) (hu : u ≤ 4611686018427387904) : numL (Lib.decDigits u) = u := by
 unfold numL
 rw [if_pos (by have := dec_len19 u (by omega); omega), numFold_dec u hu]
def refB (l : List UInt8) : List UInt8 :=
 if (parts 46 l).length = 4 then (parts 46 l).flatMap fun p => octB (numL p) 1
 else if (parts 58 l).length = 8 then (parts 58 l).flatMap fun p => (unhexL p).getD [] else []
theorem octB_one (m : Nat) : octB m 1 = [UInt8.ofNat m] := by rw [octB_succ]; simp [octB]
theorem refB_txt {v : Bool} {hi lo : Nat} (h : adrIn v hi lo) : refB (adrTxt v hi lo) = adrPut v hi lo := by
 have hg := getA_put h
 unfold adrTxt
 obtain ⟨b, hb⟩ : ∃ b, adrPut v hi lo = b := ⟨_, rfl⟩
 rw [hb] at hg ⊢
 have hl : b.length = 4 ∨ b.length = 16 := by
  unfold getA at hg
  split at hg
  · exact Or.inl (by assumption)
  ·
   split at hg
   · exact Or.inr (by assumption)
   · cases hg
 rcases hl with hl | hl
 ·
  simp only [hl, if_true]
  have hp : parts 46 (txt4 b) = b.map fun c => dec3 c.toNat := parts_join 46 _ (by intro e; rw [List.map_eq_nil_iff] at e; rw [e] at hl; cases hl) (by
   intro x hx
   obtain ⟨c, _, rfl⟩ := List.mem_map.1 hx
   intro h46
   have := dec3_isDig c _ h46
   unfold isDig at this
   exact absurd this.1 (by decide))
  unfold refB
  rw [hp, if_pos (by simp [hl]), List.flatMap_map]
  have : ∀ c : UInt8, octB (numL (dec3 c.toNat)) 1 = [c] := fun c => by
   have hc : c.toNat < 256 := c.toNat_lt
   rw [← dec3_eq (by omega), numL_dec _ (by omega), octB_one]; simp
  simp only [this]
  induction b with
  | nil => rfl
  | cons c r _ =>
   clear hp hg hb hl
   induction (c :: r) with
   | nil => rfl
   | cons d t ih => rw [List.flatMap_cons, ih]; rfl
 ·
  have hne : ¬ b.length = 4 := by omega
  obtain ⟨f1, f2, f3⟩ := flatten_prs 8 b (by omega)
  rw [if_neg hne, if_pos hl]
  have hm6 : ∀ d, (d = 46 ∨ d = 58) → ∀ x ∈ (prs b).map hexL, d ∉ x := by
   intro d hd x hx
   obtain ⟨c, _, rfl⟩ := List.mem_map.1 hx
   intro h46
   have := hexL_isHex c _ h46
   unfold isHex at this
   rcases hd with rfl | rfl <;> exact absurd this (by decide)
  have hne2 : (prs b).map hexL ≠ [] := by
   intro e
   rw [List.map_eq_nil_iff] at e
   rw [e] at f2
   cases f2
  have hp : parts 58 (txt6 b) = (prs b).map hexL := parts_join 58 _ hne2 (hm6 58 (Or.inr rfl))
  have h46 : parts 46 (txt6 b) = [txt6 b] := parts_none 46 _ (by
   intro e
   rcases mem_join 58 46 _ e with e | ⟨x, hx, e⟩
   · cases e
   · exact hm6 46 (Or.inl rfl) x hx e)
  unfold refB
  rw [h46, if_neg (by simp), hp, if_pos (by simp [f2]), List.flatMap_map]
  simp only [unhex_hex, Option.getD_some]
  rw [List.flatMap_id']
  exact f1
theorem refread_eq (l : List UInt8) : readA l = match getA (refB l) with
  | some (v, hi, lo) => if adrTxt v hi lo = l then some (v, hi, lo) else none
  | none => none := by
 cases hr : readA l with
 | some a =>
  obtain ⟨v, hi, lo⟩ := a
  obtain ⟨h1, h2⟩ := txt_readA hr
  rw [← h2, refB_txt h1, getA_put h1]
  simp
 | none =>
  cases hg : getA (refB l) with
  | none => rfl
  | some a =>
   obtain ⟨v, hi, lo⟩ := a
   by_cases h : adrTxt v hi lo = l
   ·
    have := readA_txt (put_getA hg).2
    rw [h, hr] at this
    cases this
   · simp [h]
end Go.Proofs.YtodbgjnccngljaaGreatDoor
namespace Go.Proofs.YtodbgjnccngljaaGreatDoor
open Go Go.RowKit Go.Deep
abbrev scell (p : List UInt8) : List Value := [.string ⟨p.toArray⟩]
theorem scell_one (p : List UInt8) : ∀ u ∈ scell p, u.oneCell' = true := by intro u hu; simp at hu; subst hu; rfl
theorem info_str : (Tryz.prog.info? 9).map (fun i => (i.zero, i.size, i.bytes)) = some (some (.string ByteArray.empty), 1, 16) := by kernel_rfl
abbrev OwnS (w : World) (base : Nat) (A : Option Addr) (c : Nat) (l : List (List UInt8)) : Prop := OwnA scell 1 9 w base A c l
theorem slice_from (l : List UInt8) (a : Nat) (W : World) (h : a ≤ l.length) :
  (Instr.slice 9 (.string ⟨l.toArray⟩) (some (.int .i64 (a : Int))) none none).run Tryz.prog W = .ok (.string ⟨(l.drop a).toArray⟩) W := by
 rw [run_slice_string_from_if W 9 ⟨l.toArray⟩ .i64 (a : Int) Tryz.underlying9, if_pos ⟨by omega, by rw [str_size]; omega⟩]
 rw [Int.toNat_natCast, str_size, ByteArray.extract_mk]
 rw [List.take_of_length_le (by simp)]
theorem scell_flat (l : List (List UInt8)) : l.flatMap scell = l.map fun p => Value.string ⟨p.toArray⟩ := by
 induction l with
 | nil => rfl
 | cons x t ih => rw [List.flatMap_cons, ih]; rfl
theorem own_at {w : World} {base : Nat} {A : Option Addr} {c : Nat} {l : List (List UInt8)} (h : OwnS w base A c l) {k : Nat} (hk : k < l.length) : ∃ ad, A = some ad ∧ ad.block < w.heap.size ∧ w.cell? (ad.add k) = some (.string ⟨(l.getD k []).toArray⟩) := by
 obtain ⟨ad, he, hb, hc⟩ := h.reads.2 (by omega)
 refine ⟨ad, he, hb, hc k _ ?_⟩
 rw [scell_flat, List.getElem?_map, List.getD_eq_getElem?_getD, List.getElem?_eq_getElem hk]
 rfl
theorem cut_at (l : List UInt8) (a i : Nat) (h1 : a ≤ i) (h2 : i < l.length) : l.drop a = (l.drop a).take (i - a) ++ l.getD i 0 :: l.drop (i + 1) := by
 have e := (List.take_append_drop (i - a) (l.drop a)).symm
 rw [List.drop_drop, show a + (i - a) = i by omega, List.drop_eq_getElem_cons h2] at e
 rw [List.getD_eq_getElem?_getD, List.getElem?_eq_getElem h2]
 exact e
set_option maxRecDepth 100000 in
set_option maxHeartbeats 4000000 in
theorem ref_parts (l : List UInt8) (c : UInt8) (w : World) (hL : l.length ≤ 100000) :
  Calls Tryz.prog 31 #[.string ⟨l.toArray⟩, .int .u8 (c.toNat : Nat)] w fun e w' => ∃ A k, e = .returned (.slice A (parts c l).length k) ∧ OwnS w' w.heap.size A k (parts c l) ∧ Below w.heap.size w w' := by
 obtain ⟨ws, hws⟩ : ∃ ws, parts c l = ws := ⟨_, rfl⟩
 rw [hws]
 obtain ⟨i0, hi0, hz0, hz1, hz2⟩ := info_parts info_str
 have hInf := Lib.hid (And.intro hi0 (And.intro hz0 (And.intro hz1 hz2)))
 clear hi0 hz0 hz1 hz2
 go_enter Tryz.func31, Tryz.ntmps31
 go_wp2_with fail
 go_loopw [5, 6, 7] (fun s f i wr => ∃ (a j : Nat) (A : Option Addr) (k : Nat) (out : List (List UInt8)), a ≤ j ∧ j ≤ l.length ∧ i = .int .i64 (j : Nat) ∧ f = .int .i64 (a : Nat) ∧ s = .slice A out.length k ∧ out.length ≤ a ∧ ws = out ++ parts c (l.drop a) ∧ c ∉ (l.drop a).take (j - a) ∧ OwnS wr w.heap.size A k out ∧ Below w.heap.size w wr) (fun _ _ i _ => l.length - (intOf i).toNat)
 case atStart => exact ⟨0, 0, none, 0, [], by omega, by omega, rfl, rfl, rfl, by simp, by rw [← hws]; rfl, by simp, OwnA.nil _ _, Below.refl _ _⟩
 case round =>
  obtain ⟨a, j, A, k, out, haj, hj, rfl, rfl, rfl, hol, hpar, hno, hO, hb⟩ := hrel
  have hsz := hb.size
  by_cases hlt : j < l.length
  ·
   have hlti : (j : Int) < (l.length : Int) := by omega
   have hi0 := fun W => idx_str l j W hlt
   have hcut := cut_at l a j haj hlt
   obtain ⟨d, hd⟩ : ∃ d, l.getD j 0 = d := ⟨_, rfl⟩
   rw [hd] at hi0 hcut
   by_cases he : d = c
   ·
    have hbq : ((d.toNat : Int) == (c.toNat : Int)) = true := by rw [he]; simp
    have sl := fun W => slice_piece l a j W haj (by omega)
    have hpar2 : ws = (out ++ [(l.drop a).take (j - a)]) ++ parts c (l.drop (j + 1)) := by
     rw [hpar, hcut, he, parts_hit c _ _ hno]
     have : ((l.drop a).take (j - a) ++ c :: l.drop (j + 1)).take (j - a) = (l.drop a).take (j - a) := by
      rw [List.take_append_of_le_length (by simp; omega), List.take_take, Nat.min_self]
     rw [this]; simp
    generalize (l.drop a).take (j - a) = piece at *
    replace hpar2 := Lib.hid hpar2
    clear hpar hno hcut
    replace hd := Lib.hid hd
    replace he := Lib.hid he
    replace hO := Lib.hid hO
    replace hws := Lib.hid hws
    go_wp2_with (at_builtin; refine wpList_push scell 1 (fun _ => rfl) scell_one (by omega) 58 i0 _ 16 Tryz.underlying58 hInf.out.1 hInf.out.2.1 hInf.out.2.2.1 hInf.out.2.2.2 rfl (by omega) rfl (.tmp 19) (.tmp 24) rfl w.heap.size A k out piece _ rfl rfl hO.out _ rfl rfl rfl (by omega) hsz ?_; intro A2 p2 w7 ho7 hp7)
    have hS7 := hp7.below (w0 := w) (B := w.heap.size) hb hsz (fun b hb => (hO.out.block hb).1)
    replace ho7 := Lib.hid ho7
    go_wp2_with fail
    go_roundw
    case rel => exact ⟨j + 1, j + 1, A2, p2, out ++ [piece], by omega, by omega, by go_num, by go_num, by simp, by simp; omega, hpar2.out, by simp, ho7.out, hS7⟩
    case measure => simp [intOf]; omega
   ·
    have hbq : ((d.toNat : Int) == (c.toNat : Int)) = false := by
     rw [beq_eq_false_iff_ne]
     intro e
     exact he (UInt8.toNat_inj.1 (by omega))
    have hno2 : c ∉ (l.drop a).take (j + 1 - a) := by
     rw [show j + 1 - a = (j - a) + 1 by omega, List.take_add_one]
     intro h
     rcases List.mem_append.1 h with h | h
     · exact hno h
     ·
      rw [List.getElem?_drop, show a + (j - a) = j by omega, List.getElem?_eq_getElem hlt] at h
      rw [List.getD_eq_getElem?_getD, List.getElem?_eq_getElem hlt] at hd
      simp at h hd
      exact he (by rw [← hd, h])
    replace hpar := Lib.hid hpar
    replace hno2 := Lib.hid hno2
    clear hno hcut
    replace hd := Lib.hid hd
    replace he := Lib.hid he
    replace hO := Lib.hid hO
    replace hws := Lib.hid hws
    go_wp2_with fail
    go_roundw
    case rel => exact ⟨a, j + 1, A, k, out, by omega, by omega, by go_num, rfl, rfl, hol, hpar.out, hno2.out, hO.out, hb⟩
    case measure => simp [intOf]; omega
  ·
   have hlti : ¬ (j : Int) < (l.length : Int) := by omega
   obtain rfl : j = l.length := by omega
   have sl := fun W => slice_from l a W haj
   rw [List.take_of_length_le (by simp)] at hno
   rw [parts_none c _ hno] at hpar
   generalize l.drop a = piece at *
   have hwl : ws.length = out.length + 1 := by rw [hpar]; simp
   replace hpar := Lib.hid hpar
   replace hO := Lib.hid hO
   replace hws := Lib.hid hws
   replace hno := Lib.hid hno
   go_wp2_with (at_builtin; refine wpList_push scell 1 (fun _ => rfl) scell_one (by omega) 58 i0 _ 16 Tryz.underlying58 hInf.out.1 hInf.out.2.1 hInf.out.2.2.1 hInf.out.2.2.2 rfl (by omega) rfl (.tmp 28) (.tmp 32) rfl w.heap.size A k out piece _ rfl rfl hO.out _ rfl rfl rfl (by omega) hsz ?_; intro A2 p2 w7 ho7 hp7)
   have hS7 := hp7.below (w0 := w) (B := w.heap.size) hb hsz (fun b hb => (hO.out.block hb).1)
   replace ho7 := Lib.hid ho7
   go_wp2_with fail
   go_ret
   rw [hpar.out]
   exact ⟨A2, p2, by simp, ho7.out, hS7⟩
theorem numFold_succ (l : List UInt8) {j : Nat} (h : j < l.length) : (l.take (j + 1)).foldl numStep 0 = numStep ((l.take j).foldl numStep 0) (l.getD j 0) := by
 rw [List.take_add_one, List.getElem?_eq_getElem h, List.foldl_append, List.getD_eq_getElem?_getD, List.getElem?_eq_getElem h]
 rfl
set_option maxRecDepth 100000 in
set_option maxHeartbeats 4000000 in
theorem ref_number (l : List UInt8) (w : World) (hL : l.length ≤ 1000000) :
  Calls Tryz.prog 61 #[.string ⟨l.toArray⟩] w fun e w' => e = .returned (.int .i64 (numL l : Nat)) ∧ Below w.heap.size w w' := by
 by_cases h20 : l.length < 20
 ·
  have g20 : (l.length : Int) < 20 := by omega
  have hres : numL l = l.foldl numStep 0 := by unfold numL; rw [if_pos h20]
  go_enter Tryz.func61, Tryz.ntmps61
  go_wp2_with fail
  go_loopw [3, 4] (fun n i wr => ∃ j : Nat, j ≤ l.length ∧ i = .int .i64 (j : Nat) ∧ n = .int .i64 ((l.take j).foldl numStep 0 : Nat) ∧ Below w.heap.size w wr) (fun _ i _ => l.length - (intOf i).toNat)
  case atStart => exact ⟨0, by omega, rfl, rfl, Below.refl _ _⟩
  case round =>
   obtain ⟨j, hj, rfl, rfl, hb⟩ := hrel
   by_cases hlt : j < l.length
   ·
    have hlti : (j : Int) < (l.length : Int) := by omega
    have hi0 := fun W => idx_str l j W hlt
    have hs := numFold_succ l hlt
    have hn := numFold_lt (l.take j) 0 (by omega)
    have hcl : (l.getD j 0).toNat < 256 := (l.getD j 0).toNat_lt
    obtain ⟨n, hnd⟩ : ∃ n, (l.take j).foldl numStep 0 = n := ⟨_, rfl⟩
    rw [hnd] at hs hn ⊢
    rw [numStep] at hs
    obtain ⟨c, hcd⟩ : ∃ c, (l.getD j 0).toNat = c := ⟨_, rfl⟩
    rw [hcd] at hi0 hs hcl
    replace hcd := Lib.hid hcd
    replace hnd := Lib.hid hnd
    replace hres := Lib.hid hres
    by_cases h1 : 48 ≤ c
    ·
     have d1 : (48 : Int) ≤ (c : Int) := by omega
     by_cases h2 : c ≤ 57
     ·
      have d2 : (c : Int) ≤ 57 := by omega
      by_cases h3 : n < 576460752303423488
      ·
       have d3 : (n : Int) < 576460752303423488 := by omega
       rw [if_pos ⟨h1, h2, h3⟩] at hs
       obtain ⟨d, hd⟩ : ∃ d, c - 48 = d := ⟨_, rfl⟩
       have hu : IntKind.u8.wrap ((c : Int) - 48) = (d : Int) := by rw [IntKind.wrap_u8]; omega
       have hd9 : d ≤ 9 := by omega
       rw [hd] at hs
       replace hs := Lib.hid hs
       replace hd := Lib.hid hd
       clear h1 h2 h3
       go_wp2_with fail
       go_roundw
       case rel => exact ⟨j + 1, by omega, by go_num, by rw [hs.out]; go_num, hb⟩
       case measure => simp [intOf]; omega
      ·
       have d3 : ¬ (n : Int) < 576460752303423488 := by omega
       rw [if_neg (by omega)] at hs
       replace hs := Lib.hid hs
       clear h1 h2 h3
       go_wp2_with fail
       go_roundw
       case rel => exact ⟨j + 1, by omega, by go_num, by rw [hs.out], hb⟩
       case measure => simp [intOf]; omega
     ·
      have d2 : ¬ (c : Int) ≤ 57 := by omega
      rw [if_neg (by omega)] at hs
      replace hs := Lib.hid hs
      clear h1 h2
      go_wp2_with fail
      go_roundw
      case rel => exact ⟨j + 1, by omega, by go_num, by rw [hs.out], hb⟩
      case measure => simp [intOf]; omega
    ·
     have d1 : ¬ (48 : Int) ≤ (c : Int) := by omega
     rw [if_neg (by omega)] at hs
     replace hs := Lib.hid hs
     clear h1
     go_wp2_with fail
     go_roundw
     case rel => exact ⟨j + 1, by omega, by go_num, by rw [hs.out], hb⟩
     case measure => simp [intOf]; omega
   ·
    have hlti : ¬ (j : Int) < (l.length : Int) := by omega
    obtain rfl : j = l.length := by omega
    rw [List.take_length] at *
    rw [← hres]
    replace hres := Lib.hid hres
    go_wp2_with fail
    go_ret
    exact ⟨rfl, hb⟩
 ·
  have g20 : ¬ (l.length : Int) < 20 := by omega
  have g0 : (0 : Int) < (l.length : Int) := by omega
  have hres : numL l = 0 := by unfold numL; rw [if_neg h20]
  rw [hres]
  replace hres := Lib.hid hres
  go_enter Tryz.func61, Tryz.ntmps61
  go_wp2_with fail
  go_loopw [3, 4] (fun n i wr => i = .int .i64 0 ∧ n = .int .i64 0 ∧ wr = w) (fun _ _ _ => 0)
  case atStart => exact ⟨rfl, rfl, rfl⟩
  case round =>
   obtain ⟨rfl, rfl, rfl⟩ := hrel
   go_wp2_with fail
   go_ret
   exact ⟨rfl, Below.refl _ _⟩
theorem take_snoc (ws : List (List UInt8)) {j : Nat} (h : j < ws.length) : ws.take (j + 1) = ws.take j ++ [ws.getD j []] := by
 rw [List.take_add_one, List.getElem?_eq_getElem h, List.getD_eq_getElem?_getD, List.getElem?_eq_getElem h]
 rfl
set_option maxRecDepth 100000 in
set_option maxHeartbeats 8000000 in
theorem refaddr_text (v : Bool) (hi lo : Nat) (w : World) (hhi : hi < 18446744073709551616) (hlo : lo < 18446744073709551616) :
  Calls Tryz.prog 27 #[.agg #[.bool v, .int .u64 (hi : Nat), .int .u64 (lo : Nat)]] w fun e w' => e = .returned (.string ⟨(adrTxt v hi lo).toArray⟩) ∧ Below w.heap.size w w' := by
 have hb0 : Below w.heap.size w (w.alloc (.cells #[.bool v, .int .u64 (hi : Nat), .int .u64 (lo : Nat)] 24)) := (Below.refl _ _).alloc (Nat.le_refl _) _
 have P := Lib.hid (fun w => refaddr_put v hi lo w hhi hlo)
 obtain ⟨r, hr⟩ : ∃ r, adrTxt v hi lo = r := ⟨_, rfl⟩
 rw [hr]
 unfold adrTxt at hr
 have hbl := adrPut_len v hi lo
 obtain ⟨b, hb⟩ : ∃ b, adrPut v hi lo = b := ⟨_, rfl⟩
 rw [hb] at P hr hbl
 have hsb : (ByteArray.mk b.toArray).size = b.length := rfl
 clear hb
 by_cases h4 : b.length = 4
 ·
  have e4 : ((b.length : Int) == 4) = true := by rw [h4]; rfl
  have e16 : ((b.length : Int) == 16) = false := by rw [h4]; rfl
  simp only [h4, if_true] at hr
  obtain ⟨ws, hws⟩ : ∃ ws, b.map (fun c => dec3 c.toNat) = ws := ⟨_, rfl⟩
  have hwl : ws.length = 4 := by rw [← hws, List.length_map, h4]
  have hwj : ∀ j, j < 4 → ws.getD j [] = dec3 (b.getD j 0).toNat := fun j hj => by
   rw [← hws, List.getD_eq_getElem?_getD, List.getElem?_map, List.getD_eq_getElem?_getD, List.getElem?_eq_getElem (by omega)]; rfl
  have hw3 : ∀ j, j < 4 → (ws.getD j []).length ≤ 3 := fun j hj => by rw [hwj j hj]; exact dec3_len _
  have hrj : r = Lib.join (ws.take 4) [46] := by rw [← hr, ← hws, List.take_of_length_le (by simp [h4])]; rfl
  have hD : ∀ j, j < 4 → ∀ W, Calls Tryz.prog 24 #[.int .i64 ((b.getD j 0).toNat : Nat)] W fun e w' => e = .returned (.string ⟨(ws.getD j []).toArray⟩) ∧ Below W.heap.size W w' := fun j hj W => by
   have := ref_digits_nat (b.getD j 0).toNat W (by have := (b.getD j 0).toNat_lt; omega)
   rw [dec3_eq (by have := (b.getD j 0).toNat_lt; omega), ← hwj j hj] at this
   exact this
  have hone : ∀ j, j < 4 → IntKind.i64.wrap (((b.getD j 0).toNat : Nat) : Int) = ((b.getD j 0).toNat : Nat) := fun j _ => by
   have := (b.getD j 0).toNat_lt
   rw [IntKind.wrap_i64]; omega
  have hI : ∀ j : Nat, j < 4 → ∀ W, (Instr.index 9 (.string ⟨b.toArray⟩) (.int .i64 (j : Int))).run Tryz.prog W = .ok (.int .u8 ((b.getD j 0).toNat : Nat)) W := fun j hj W => idx_str b j W (by omega)
  have hj1 : Lib.join (ws.take 1) [46] = ws.getD 0 [] := by
   rw [take_snoc ws (by omega)]; exact Lib.join_one _ _
  have hjs : ∀ j, 1 ≤ j → j < 4 → Lib.join (ws.take (j + 1)) [46] = Lib.join (ws.take j) [46] ++ 46 :: ws.getD j [] := fun j h1 h2 => by
   rw [take_snoc ws (by omega)]
   exact join_snoc 46 _ _ (by intro e; have := congrArg List.length e; rw [List.length_take, List.length_nil, hwl] at this; omega)
  have hjl : ∀ j, j ≤ 4 → (Lib.join (ws.take j) [46]).length ≤ 16 := fun j hj => by
   have := join_len_le 46 3 (ws.take j) (fun x hx => by
    obtain ⟨k, hk⟩ := List.mem_iff_getElem?.1 (List.mem_of_mem_take hx)
    have hk2 := (List.getElem?_eq_some_iff.1 hk).1
    have := hw3 k (by omega)
    rw [List.getD_eq_getElem?_getD, hk] at this
    exact this)
   have h2 : (ws.take j).length ≤ 4 := by rw [List.length_take]; omega
   have : (ws.take j).length * (3 + 1) ≤ 4 * 4 := Nat.mul_le_mul h2 (by decide)
   omega
  clear hr hws hwj
  have D0 := Lib.hid (hD 0 (by omega))
  have I0 := hI 0 (by omega)
  have U0 := hone 0 (by omega)
  rw [show ((0 : Nat) : Int) = 0 from rfl] at I0
  rw [← hj1] at D0
  replace hD := Lib.hid hD
  replace hI := Lib.hid hI
  replace hone := Lib.hid hone
  replace hrj := Lib.hid hrj
  replace hjs := Lib.hid hjs
  replace hjl := Lib.hid hjl
  replace hj1 := Lib.hid hj1
  replace hw3 := Lib.hid hw3
  generalize (b.getD 0 0).toNat = c0 at *
  generalize hS1 : Lib.join (ws.take 1) [46] = S1 at *
  replace hS1 := Lib.hid hS1
  go_enter Tryz.func27, Tryz.ntmps27
  go_wp2_with (first
   | (go_at_call 53; (with_reducible refine (P.out _).mono ?_); rintro e w2 ⟨rfl, hb2⟩)
   | (go_at_call 24; (with_reducible refine (D0.out _).mono ?_); rintro e w3 ⟨rfl, hb3⟩))
  have hbA := below_chain hb3 (below_chain hb2 hb0)
  clear hb0 hb2 hb3
  go_loopw [4, 5] (fun s i wr => ∃ j : Nat, 1 ≤ j ∧ j ≤ 4 ∧ i = .int .i64 (j : Nat) ∧ s = .string ⟨(Lib.join (ws.take j) [46]).toArray⟩ ∧ Below w.heap.size w wr) (fun _ i _ => 4 - (intOf i).toNat)
  case atStart => exact ⟨1, by omega, by omega, rfl, by rw [hS1.out], hbA⟩
  case round =>
   obtain ⟨j, hj1, hj, rfl, rfl, hb⟩ := hrel
   by_cases hlt : j < 4
   ·
    have hlti : (j : Int) < 4 := by omega
    have D := Lib.hid (hD.out j hlt)
    have I := hI.out j hlt
    have U := hone.out j hlt
    have hs := hjs.out j hj1 hlt
    have hl := hjl.out j hj
    have hx := hw3.out j hlt
    generalize ws.getD j [] = x at *
    generalize (b.getD j 0).toNat = c at *
    obtain ⟨S, hS⟩ : ∃ S, Lib.join (ws.take j) [46] = S := ⟨_, rfl⟩
    rw [hS] at hs hl ⊢
    have hcat1 : (ByteArray.mk S.toArray) ++ ⟨#[46]⟩ = ⟨(S ++ [46]).toArray⟩ := str_append S [46]
    have hcat2 : (ByteArray.mk (S ++ [46]).toArray) ++ ⟨x.toArray⟩ = ⟨(S ++ [46] ++ x).toArray⟩ := str_append (S ++ [46]) x
    have hss1 : ¬ 9223372036854775807 < S.length + 1 := by omega
    have hss2 : ¬ 9223372036854775807 < S.length + 1 + x.length := by omega
    have hss3 : ¬ 9223372036854775807 < (S ++ [46]).length + x.length := by simp; omega
    have hfin : (ByteArray.mk S.toArray) ++ ⟨#[46]⟩ ++ ⟨x.toArray⟩ = ⟨(Lib.join (ws.take (j + 1)) [46]).toArray⟩ := by
     rw [hcat1, hcat2, hs]; simp
    replace hS := Lib.hid hS
    replace hs := Lib.hid hs
    replace hcat1 := Lib.hid hcat1
    replace hcat2 := Lib.hid hcat2
    replace hfin := Lib.hid hfin
    go_wp2_with (go_at_call 24; (with_reducible refine (D.out _).mono ?_); rintro e w3 ⟨rfl, hb3⟩)
    go_roundw
    case rel => exact ⟨j + 1, by omega, by omega, by go_num, by rw [← hfin.out], below_chain hb3 hb⟩
    case measure => simp [intOf]; omega
   ·
    have hlti : ¬ (j : Int) < 4 := by omega
    obtain rfl : j = 4 := by omega
    rw [← hrj.out]
    go_wp2_with fail
    go_ret
    exact ⟨rfl, hb⟩
 ·
  have e4 : ((b.length : Int) == 4) = false := by rw [beq_eq_false_iff_ne]; omega
  simp only [h4, if_false] at hr
  by_cases h16 : b.length = 16
  ·
   have e16 : ((b.length : Int) == 16) = true := by rw [h16]; rfl
   simp only [h16, if_true] at hr
   obtain ⟨ws, hws⟩ : ∃ ws, (prs b).map hexL = ws := ⟨_, rfl⟩
   obtain ⟨_, hpl, hp2⟩ := flatten_prs 8 b (by omega)
   have hwl : ws.length = 8 := by rw [← hws, List.length_map, hpl]
   have hwj : ∀ j, j < 8 → ws.getD j [] = hexL ((b.drop (2 * j)).take 2) := fun j hj => by
    rw [← hws, List.getD_eq_getElem?_getD, List.getElem?_map, prs_at j b (by omega)]; rfl
   have hw3 : ∀ j, j < 8 → (ws.getD j []).length ≤ 4 := fun j hj => by rw [hwj j hj, hexL_len, List.length_take]; omega
   have hrj : r = Lib.join (ws.take 8) [58] := by rw [← hr, ← hws, List.take_of_length_le (by simp [hpl])]; rfl
   have hD : ∀ j, j < 8 → ∀ W, Calls Tryz.prog 52 #[.string ⟨((b.drop (2 * j)).take 2).toArray⟩] W fun e w' => e = .returned (.string ⟨(ws.getD j []).toArray⟩) ∧ Below W.heap.size W w' := fun j hj W => by
    rw [hwj j hj]
    exact ref_hex _ W (by rw [List.length_take]; omega)
   have hI : ∀ j : Nat, j < 8 → ∀ W, (Instr.slice 9 (.string ⟨b.toArray⟩) (some (.int .i64 ((2 * j : Nat) : Int))) (some (.int .i64 (((2 * j : Nat) : Int) + 2))) none).run Tryz.prog W = .ok (.string ⟨((b.drop (2 * j)).take 2).toArray⟩) W := fun j hj W => by
    have := slice_piece b (2 * j) (2 * j + 2) W (by omega) (by omega)
    rw [show 2 * j + 2 - 2 * j = 2 by omega, show ((2 * j + 2 : Nat) : Int) = ((2 * j : Nat) : Int) + 2 by omega] at this
    exact this
   have I0 : ∀ W, (Instr.slice 9 (.string ⟨b.toArray⟩) none (some (.int .i64 2)) none).run Tryz.prog W = .ok (.string ⟨((b.drop (2 * 0)).take 2).toArray⟩) W := fun W => by
    rw [run_slice_string_to_if W 9 ⟨b.toArray⟩ .i64 2 Tryz.underlying9, if_pos ⟨by omega, by rw [str_size]; omega⟩, show (2 : Int).toNat = 2 from rfl, ByteArray.extract_mk]
   have hj1 : Lib.join (ws.take 1) [58] = ws.getD 0 [] := by
    rw [take_snoc ws (by omega)]; exact Lib.join_one _ _
   have hjs : ∀ j, 1 ≤ j → j < 8 → Lib.join (ws.take (j + 1)) [58] = Lib.join (ws.take j) [58] ++ 58 :: ws.getD j [] := fun j h1 h2 => by
    rw [take_snoc ws (by omega)]
    exact join_snoc 58 _ _ (by intro e; have := congrArg List.length e; rw [List.length_take, List.length_nil, hwl] at this; omega)
   have hjl : ∀ j, j ≤ 8 → (Lib.join (ws.take j) [58]).length ≤ 40 := fun j hj => by
    have := join_len_le 58 4 (ws.take j) (fun x hx => by
     obtain ⟨k, hk⟩ := List.mem_iff_getElem?.1 (List.mem_of_mem_take hx)
     have hk2 := (List.getElem?_eq_some_iff.1 hk).1
     have := hw3 k (by omega)
     rw [List.getD_eq_getElem?_getD, hk] at this
     exact this)
    have h2 : (ws.take j).length ≤ 8 := by rw [List.length_take]; omega
    have : (ws.take j).length * (4 + 1) ≤ 8 * 5 := Nat.mul_le_mul h2 (by decide)
    omega
   clear hr hws hwj hp2
   have D0 := Lib.hid (hD 0 (by omega))
   rw [← hj1] at D0
   replace hD := Lib.hid hD
   replace hI := Lib.hid hI
   replace hrj := Lib.hid hrj
   replace hjs := Lib.hid hjs
   replace hjl := Lib.hid hjl
   replace hj1 := Lib.hid hj1
   replace hw3 := Lib.hid hw3
   generalize (b.drop (2 * 0)).take 2 = c0 at *
   generalize hS1 : Lib.join (ws.take 1) [58] = S1 at *
   replace hS1 := Lib.hid hS1
   go_enter Tryz.func27, Tryz.ntmps27
   go_wp2_with (first
    | (go_at_call 53; (with_reducible refine (P.out _).mono ?_); rintro e w2 ⟨rfl, hb2⟩)
    | (go_at_call 52; (with_reducible refine (D0.out _).mono ?_); rintro e w3 ⟨rfl, hb3⟩))
   have hbA := below_chain hb3 (below_chain hb2 hb0)
   clear hb0 hb2 hb3 I0
   go_loopw [4, 6] (fun s i wr => ∃ j : Nat, 1 ≤ j ∧ j ≤ 8 ∧ i = .int .i64 ((2 * j : Nat) : Int) ∧ s = .string ⟨(Lib.join (ws.take j) [58]).toArray⟩ ∧ Below w.heap.size w wr) (fun _ i _ => 16 - (intOf i).toNat)
   case atStart => exact ⟨1, by omega, by omega, rfl, by rw [hS1.out], hbA⟩
   case round =>
    obtain ⟨j, hj1, hj, rfl, rfl, hb⟩ := hrel
    obtain ⟨ii, hii⟩ : ∃ ii, ((2 * j : Nat) : Int) = ii := ⟨_, rfl⟩
    by_cases hlt : j < 8
    ·
     have D := Lib.hid (hD.out j hlt)
     have I := hI.out j hlt
     have hs := hjs.out j hj1 hlt
     have hl := hjl.out j hj
     have hx := hw3.out j hlt
     rw [hii] at I ⊢
     have hlti : ii < 16 := by omega
     have hx0 : 0 ≤ ii := by omega
     generalize ws.getD j [] = x at *
     generalize (b.drop (2 * j)).take 2 = c at *
     obtain ⟨S, hS⟩ : ∃ S, Lib.join (ws.take j) [58] = S := ⟨_, rfl⟩
     rw [hS] at hs hl ⊢
     have hcat1 : (ByteArray.mk S.toArray) ++ ⟨#[58]⟩ = ⟨(S ++ [58]).toArray⟩ := str_append S [58]
     have hcat2 : (ByteArray.mk (S ++ [58]).toArray) ++ ⟨x.toArray⟩ = ⟨(S ++ [58] ++ x).toArray⟩ := str_append (S ++ [58]) x
     have hss1 : ¬ 9223372036854775807 < S.length + 1 := by omega
     have hss2 : ¬ 9223372036854775807 < S.length + 1 + x.length := by omega
     have hfin : (ByteArray.mk S.toArray) ++ ⟨#[58]⟩ ++ ⟨x.toArray⟩ = ⟨(Lib.join (ws.take (j + 1)) [58]).toArray⟩ := by
      rw [hcat1, hcat2, hs]; simp
     replace hS := Lib.hid hS
     replace hs := Lib.hid hs
     replace hcat1 := Lib.hid hcat1
     replace hcat2 := Lib.hid hcat2
     replace hfin := Lib.hid hfin
     replace hii := Lib.hid hii
     go_wp2_with (go_at_call 52; (with_reducible refine (D.out _).mono ?_); rintro e w3 ⟨rfl, hb3⟩)
     go_roundw
     case rel => exact ⟨j + 1, by omega, by omega, by rw [← hii.out]; go_num, by rw [← hfin.out], below_chain hb3 hb⟩
     case measure => simp [intOf]; omega
    ·
     obtain rfl : j = 8 := by omega
     have hlti : ¬ ii < 16 := by omega
     rw [hii]
     rw [← hrj.out]
     replace hii := Lib.hid hii
     go_wp2_with fail
     go_ret
     exact ⟨rfl, hb⟩
  ·
   have e16 : ((b.length : Int) == 16) = false := by rw [beq_eq_false_iff_ne]; omega
   simp only [h16, if_false] at hr
   subst hr
   go_enter Tryz.func27, Tryz.ntmps27
   go_wp2_with (go_at_call 53; (with_reducible refine (P.out _).mono ?_); rintro e w2 ⟨rfl, hb2⟩)
   go_ret
   exact ⟨rfl, below_chain hb2 hb0⟩
end Go.Proofs.YtodbgjnccngljaaGreatDoor
