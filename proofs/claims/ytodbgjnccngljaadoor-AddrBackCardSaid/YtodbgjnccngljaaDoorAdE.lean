/- octet.Unhex. -/
import Derived.Test.YtodbgjnccngljaaDoorIdxR
import Derived.Test.YtodbgjnccngljaaDoorUnhR
namespace Go.Proofs.YtodbgjnccngljaaDoor
open Go Go.RowKit Go.Deep

def nibV (l : List UInt8) (i : Nat) : Nat := (hexv (l.getD i 0)).getD 0
theorem nibV_lt (l : List UInt8) (i : Nat) : nibV l i < 16 := by
  unfold nibV
  cases h : hexv (l.getD i 0) with
  | none => decide
  | some n => exact (hexd_hexv h).2
def uhF (l : List UInt8) (j : Nat) : Nat → Value := fun i => .int .u8 ((if 2 * i + 1 < j then 16 * nibV l (2 * i) + nibV l (2 * i + 1) else if 2 * i < j then nibV l (2 * i) else 0 : Nat) : Int)
theorem unhexL_take (l : List UInt8) : ∀ m, 2 * m ≤ l.length → (∀ k, k < 2 * m → hexv (l.getD k 0) ≠ none) → unhexL (l.take (2 * m)) = some ((List.range m).map fun i => UInt8.ofNat (16 * nibV l (2 * i) + nibV l (2 * i + 1)))
  | 0, _, _ => rfl
  | m + 1, h, hv => by
    have ih := unhexL_take l m (by omega) (fun k hk => hv k (by omega))
    have e0 : hexv (l.getD (2 * m) 0) = some (nibV l (2 * m)) := by
      unfold nibV
      cases hh : hexv (l.getD (2 * m) 0) with
      | none => exact absurd hh (hv _ (by omega))
      | some n => rfl
    have e1 : hexv (l.getD (2 * m + 1) 0) = some (nibV l (2 * m + 1)) := by
      unfold nibV
      cases hh : hexv (l.getD (2 * m + 1) 0) with
      | none => exact absurd hh (hv _ (by omega))
      | some n => rfl
    rw [unhexL_step (by omega) ih e0 e1, List.range_succ, List.map_append]
    rfl
theorem idx_hexN_fin : ∀ c : Fin 128, Lib.indexByte digs (UInt8.ofNat c.val) = hexN (UInt8.ofNat c.val) := by decide +kernel
theorem hexN_high {c : UInt8} (h : 128 ≤ c.toNat) : hexN c = -1 := by
  unfold hexN hexv
  rw [if_neg (by omega), if_neg (by omega)]
/-- IndexRune of the digits at the rune that a text's byte begins. -/
theorem idx_any (l : List UInt8) (j : Nat) (h : j < l.length) (w : World) :
    Calls Tryd.prog 60 #[.string digB, .int .i32 ((Utf8.decode ⟨l.toArray⟩ j).1 : Nat)] w fun e w' => e = .returned (.int .i64 (hexN (l.getD j 0))) ∧ Below w.heap.size w w' := by
  have hs : j < (ByteArray.mk l.toArray).size := h
  have hc : (ByteArray.mk l.toArray)[j]'hs = l.getD j 0 := by
    rw [List.getD_eq_getElem?_getD, List.getElem?_eq_getElem h]; rfl
  by_cases ha : ((ByteArray.mk l.toArray)[j]'hs).toNat < 128
  · rw [decode_ascii _ j hs ha, hc]
    rw [hc] at ha
    refine (Tryd.strings_IndexRune_ascii digB _ w (by omega) (by omega)).mono ?_
    rintro e w1 ⟨rfl, rfl⟩
    have := idx_hexN_fin ⟨(l.getD j 0).toNat, ha⟩
    simp only [UInt8.ofNat_toNat] at this
    refine ⟨?_, Below.refl _ _⟩
    rw [← this]
    simp [digB, digs]
  · have hd := (decode_high _ j hs (by omega)).1
    rw [hc] at ha
    rw [hexN_high (by omega)]
    exact idx_rune _ w (by omega)

set_option maxRecDepth 100000 in
set_option maxHeartbeats 4000000 in
theorem oct_unhex (l : List UInt8) (w : World) (hL : l.length ≤ 1000000) :
    Calls Tryd.prog 47 #[.string ⟨l.toArray⟩] w fun e w' => e = .returned (unhexV l) ∧ Below w.heap.size w w' := by
  have hsS : (ByteArray.mk l.toArray).size = l.length := rfl
  obtain ⟨n, hn⟩ : ∃ n, l.length / 2 = n := ⟨_, rfl⟩
  have hmk := run_make_row' (P := Tryd.prog) 54 5 (.int .u8 0) 1 Tryd.underlying54 info_u8 rfl .i64 .i64 n (by omega) (by omega)
  have ht : (l.length : Int).tmod 2 = ((l.length % 2 : Nat) : Int) := by simp [Int.tmod]
  have hq : (l.length : Int).tdiv 2 = (n : Int) := by rw [← hn]; simp [Int.tdiv]
  by_cases ho : l.length % 2 = 1
  · rw [ho] at ht
    have z := Lib.hid (unhexL_odd ho)
    clear hmk
    go_enter Tryd.func47, Tryd.ntmps47
    go_wp2_with fail
    go_ret2
    exact ⟨by unfold unhexV; rw [z.out]; rfl, Below.refl _ _⟩
  have h0 : l.length % 2 = 0 := by omega
  rw [h0] at ht
  have hr0 := World.rowIs_made w (.int .u8 0) n 5
  have hA0 := fun j => idx_any l j
  have hS : ∀ j, j < l.length → 1 ≤ (Utf8.decode ⟨l.toArray⟩ j).2 := fun j hj => by
    by_cases ha : ((ByteArray.mk l.toArray)[j]'hj).toNat < 128
    · rw [decode_ascii ⟨l.toArray⟩ j hj ha]; exact Nat.le_refl 1
    · exact (decode_high ⟨l.toArray⟩ j hj (by omega)).2
  have hS1 : ∀ j, (hj : j < l.length) → hexv (l.getD j 0) ≠ none → (Utf8.decode ⟨l.toArray⟩ j).2 = 1 := fun j hj hv => by
    have ha : ((ByteArray.mk l.toArray)[j]'hj).toNat < 128 := by
      have hc : (ByteArray.mk l.toArray)[j]'hj = l.getD j 0 := by
        rw [List.getD_eq_getElem?_getD, List.getElem?_eq_getElem hj]; rfl
      rw [hc]
      unfold hexv at hv
      split at hv
      · omega
      · split at hv
        · omega
        · exact absurd rfl hv
    rw [decode_ascii ⟨l.toArray⟩ j hj ha]
  have hD : digB = ⟨#[48, 49, 50, 51, 52, 53, 54, 55, 56, 57, 97, 98, 99, 100, 101, 102]⟩ := rfl
  rw [hD] at hA0
  generalize (ByteArray.mk l.toArray) = S at *
  go_enter Tryd.func47, Tryd.ntmps47
  go_wp2_with fail
  clear hmk
  have hsz0 : (w.alloc (.cells (madeCells #[.int .u8 0] n) 5)).heap.size = w.heap.size + 1 := by simp
  have hbA : Below w.heap.size w (w.alloc (.cells (madeCells #[.int .u8 0] n) 5)) := (Below.refl _ _).alloc (Nat.le_refl _) _
  generalize w.alloc (.cells (madeCells #[.int .u8 0] n) 5) = w0 at *
  have hit0 := World.iter_heap w0 S 0
  have hr1 : (w0.iter S 0).rowIs w.heap.size 5 n (uhF l 0) := (rowIs_below hr0 ((Below.refl _ w0).alloc (Nat.le_refl _) _ : Below w0.heap.size w0 (w0.iter S 0)) (by omega)).congr (fun i hi => by simp [uhF])
  have hb1 : Below w.heap.size w (w0.iter S 0) := hbA.trans ((Below.refl _ w0).alloc (by omega) _)
  rw [hsz0] at hit0
  go_loopw [5] (fun i wr => ∃ j : Nat, j ≤ l.length ∧ i = .int .i64 (j : Nat) ∧ wr.heap[w.heap.size + 1]? = some (.stringIter S j) ∧ wr.rowIs w.heap.size 5 n (uhF l j) ∧ Below w.heap.size w wr ∧ ∀ k, k < j → hexv (l.getD k 0) ≠ none) (fun i _ => l.length - (intOf i).toNat)
  case atStart => exact ⟨0, by omega, rfl, hit0, hr1, hb1, fun k hk => by omega⟩
  case round =>
    obtain ⟨j, hj, rfl, hit, hr, hb, hno⟩ := hrel
    have hszr : w.heap.size + 1 < wr.heap.size := (Array.getElem?_eq_some_iff.1 hit).1
    by_cases hlt : j < l.length
    · obtain ⟨r, hrd⟩ : ∃ r, (Utf8.decode S j).1 = r := ⟨_, rfl⟩
      obtain ⟨wd, hwd⟩ : ∃ wd, (Utf8.decode S j).2 = wd := ⟨_, rfl⟩
      have hnx : ∀ ty, (Instr.next (.pointer (some ⟨w.heap.size + 1, 0, none⟩)) true ty).run Tryd.prog wr = .ok (.tuple #[.bool true, .int .i64 j, .int .i32 (r : Int)]) (wr.iterAt (w.heap.size + 1) S (j + wd)) := fun ty => by
        rw [Lib.run_next_any_at wr (w.heap.size + 1) S j ty hit (by omega), hrd, hwd]
      have hit2 := Lib.iterAt_heap wr (w.heap.size + 1) S j (j + wd) hit
      have hb2 := Lib.below_iterAt hb (k := w.heap.size + 1) (by omega) S (j + wd)
      have hr2 : (wr.iterAt (w.heap.size + 1) S (j + wd)).rowIs w.heap.size 5 n (uhF l j) := hr.of_block (Lib.iterAt_other _ _ _ _ _ (by omega))
      have hs2 : (wr.iterAt (w.heap.size + 1) S (j + wd)).heap.size = wr.heap.size := Lib.iterAt_size _ _ _ _
      generalize wr.iterAt (w.heap.size + 1) S (j + wd) = w2 at *
      have K := hA0 j hlt
      rw [hrd] at K
      have h1 := hS1 j hlt
      rw [hwd] at h1
      obtain ⟨c, hc⟩ : ∃ c, l.getD j 0 = c := ⟨_, rfl⟩
      rw [hc] at K h1
      obtain ⟨N, hN⟩ : ∃ N, hexN c = N := ⟨_, rfl⟩
      rw [hN] at K
      replace K := Lib.hid K
      clear hA0 hS hS1 hr hit hb hr1 hit0 hr0
      replace h1 := Lib.hid h1
      replace hno := Lib.hid hno
      replace hc := Lib.hid hc
      replace hN := Lib.hid hN
      by_cases hneg : N < 0
      · have z : unhexL l = none := by
          refine unhexL_bad hlt ?_
          rw [hc.out]
          rcases hexN_of (c := c) with ⟨v, _⟩ | ⟨m, _, _, e⟩
          · exact v
          · have := hN.out; omega
        replace z := Lib.hid z
        go_wp2_with (go_at_call 60; refine (K.out _).mono ?_; rintro e w3 ⟨rfl, hb3⟩)
        go_ret2
        exact ⟨by unfold unhexV; rw [z.out]; rfl, below_chain hb3 hb2⟩
      · obtain ⟨v, hv16, hve, hNv⟩ : ∃ m, m < 16 ∧ hexv c = some m ∧ N = (m : Int) := by
          rcases hexN_of (c := c) with ⟨_, e⟩ | ⟨m, m1, m2, e⟩
          · have := hN.out; omega
          · exact ⟨m, m1, m2, hN.out ▸ e⟩
        have hwd1 := h1.out (by rw [hve]; simp)
        rw [hwd1] at hit2
        rw [hNv] at K
        have hnv : nibV l j = v := by unfold nibV; rw [hc.out, hve]; rfl
        have hqn : j / 2 < n := by omega
        obtain ⟨x, hx16, hxe⟩ : ∃ x, x < 16 ∧ uhF l j (j / 2) = .int .u8 (x : Nat) ∧ (uhF l (j + 1) (j / 2) = .int .u8 ((16 * x + v : Nat) : Int)) := by
          by_cases hp : j % 2 = 0
          · refine ⟨0, by omega, ?_, ?_⟩
            · unfold uhF; rw [if_neg (by omega), if_neg (by omega)]
            · unfold uhF; rw [if_neg (by omega), if_pos (by omega), show 2 * (j / 2) = j by omega, hnv]; simp
          · refine ⟨nibV l (2 * (j / 2)), nibV_lt _ _, ?_, ?_⟩
            · unfold uhF; rw [if_neg (by omega), if_pos (by omega)]
            · unfold uhF; rw [if_pos (by omega), show 2 * (j / 2) + 1 = j by omega, hnv]
        have hu1 : IntKind.u8.wrap ((x : Int) * 16) = (x : Int) * 16 := by rw [IntKind.wrap_u8]; omega
        have hu2 : IntKind.u8.wrap (v : Int) = (v : Int) := by rw [IntKind.wrap_u8]; omega
        have hno2 : ∀ k, k < j + 1 → hexv (l.getD k 0) ≠ none := fun k hk => by
          by_cases e : k = j
          · rw [e, hc.out, hve]; simp
          · exact hno.out k (by omega)
        obtain ⟨y, hy⟩ : ∃ y, 16 * x + v = y := ⟨_, rfl⟩
        have hu3 : bits BinOp.or IntKind.u8 ((x : Int) * 16) (v : Int) = (y : Int) := by
          rw [show (x : Int) * 16 = ((x * 16 : Nat) : Int) by omega, u8_or_nat _ _ (by omega) (by omega)]
          have := Nat.two_pow_add_eq_or_of_lt (i := 4) (b := v) (by simpa using hv16) x
          rw [show 2 ^ 4 * x = x * 16 by omega] at this
          rw [← this, ← hy, Nat.mul_comm]
        rw [hy] at hxe
        have hlast : ∀ w3, Below w2.heap.size w2 w3 → (w3.setCell ⟨w.heap.size, j / 2, none⟩ (.int .u8 (y : Int))).rowIs w.heap.size 5 n (uhF l (j + 1)) ∧ Below w.heap.size w (w3.setCell ⟨w.heap.size, j / 2, none⟩ (.int .u8 (y : Int))) ∧ (w3.setCell ⟨w.heap.size, j / 2, none⟩ (.int .u8 (y : Int))).heap[w.heap.size + 1]? = some (.stringIter S (j + 1)) := by
          intro w3 hb3
          have hr3 := rowIs_call hr2 hb3
          have hit3 := (hb3.block _ (show w.heap.size + 1 < w2.heap.size by omega)).trans hit2
          have hb4 := below_chain hb3 hb2
          refine ⟨(hr3.set (j / 2) _).congr fun i hi => ?_, hb4.setCell (Nat.le_refl _) _, (Below.heap_setCell _ _ _ _ (by simp)).trans hit3⟩
          by_cases e : i = j / 2
          · rw [if_pos e, e, hxe.2]
          · rw [if_neg e]
            unfold uhF
            by_cases e1 : 2 * i + 1 < j
            · rw [if_pos e1, if_pos (by omega)]
            · rw [if_neg e1, if_neg (by omega), if_neg (by omega), if_neg (by omega)]
        have hxe1 := hxe.1
        replace hlast := Lib.hid hlast
        replace hno2 := Lib.hid hno2
        replace hxe := Lib.hid hxe
        replace hxe1 := Lib.hid hxe1
        replace hve := Lib.hid hve
        replace hnv := Lib.hid hnv
        replace hr2 := Lib.hid hr2
        replace hy := Lib.hid hy
        clear hit2 h1 hNv hneg
        have h0v : ¬ (v : Int) < 0 := by omega
        go_wp2_with (go_at_call 60; refine (K.out _).mono ?_; rintro e w3 ⟨rfl, hb3⟩; have hr3 := rowIs_call hr2.out hb3; have c0 := hr3.cell (i := j / 2) hqn; have f0 := hr3.frozen (j / 2); rw [hxe1.out] at c0; replace hr3 := Lib.hid hr3)
        obtain ⟨z1, z2, z3⟩ := hlast.out w3 hb3
        replace z1 := Lib.hid z1
        replace z3 := Lib.hid z3
        go_roundw
        case rel => exact ⟨j + 1, by omega, by go_num, z3.out, z1.out, z2, hno2.out⟩
        case measure => simp [intOf]; omega
    · have hnx : ∀ ty, (Instr.next (.pointer (some ⟨w.heap.size + 1, 0, none⟩)) true ty).run Tryd.prog wr = .ok (.tuple #[.bool false]) wr := fun ty => Lib.run_next_end_at wr (w.heap.size + 1) S j ty hit (by omega)
      obtain rfl : j = l.length := by omega
      have hU := unhexL_take l n (by omega) (fun k hk => hno k (by omega))
      rw [List.take_of_length_le (by omega)] at hU
      have hnl : ((List.range n).map fun i => UInt8.ofNat (16 * nibV l (2 * i) + nibV l (2 * i + 1))).length = n := by simp
      have hcv := run_convert_bytes_back (P := Tryd.prog) wr 54 9 5 ⟨w.heap.size, 0, none⟩ n ((List.range n).map fun i => UInt8.ofNat (16 * nibV l (2 * i) + nibV l (2 * i + 1))) Tryd.underlying54 Tryd.underlying5 Tryd.underlying9 (fun i hi => by
        have hi' : i < n := by simpa using hi
        have e : (⟨w.heap.size, 0, none⟩ : Addr).add i = ⟨w.heap.size, i, none⟩ := by unfold Addr.add; split <;> simp_all
        rw [e, hr.cell hi']
        have := nibV_lt l (2 * i)
        have := nibV_lt l (2 * i + 1)
        simp only [uhF, List.getElem_map, List.getElem_range, UInt8.toNat_ofNat']
        rw [if_pos (by omega), Nat.mod_eq_of_lt (by omega)])
      rw [hnl] at hcv
      generalize ((List.range n).map fun i => UInt8.ofNat (16 * nibV l (2 * i) + nibV l (2 * i + 1))) = res at *
      replace hU := Lib.hid hU
      clear hA0 hS hS1 hr hit hno hr1 hit0 hr0
      go_wp2_with fail
      go_ret2
      exact ⟨by unfold unhexV; rw [hU.out]; rfl, hb⟩
end Go.Proofs.YtodbgjnccngljaaDoor
