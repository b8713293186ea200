/- SameInts of the references, and readings of rows. -/
import Derived.Test.YtfpepgeaaadpdaaBase
import Derived.Test.YtfpepgeaaadpdaaChecked
import Derived.WalkLawsBesides
import Derived.Lib.Hide
import Derived.Deep.OwnRows
import Derived.Deep.QuietTactic
import Derived.BigQuiet
namespace Go.Proofs.Ytfpepgeaaadpdaa
open Go Go.RowKit Go.Deep

theorem own : ownKnob Try.prog.godebug = none := by kernel_rfl
theorem laidOut : laidOutB Try.prog = true := by kernel_rfl
theorem cells_int : Try.prog.cellsOf 3 = 1 := by kernel_rfl
theorem info_int : (Try.prog.info? 3).map (fun i => (i.zero, i.size, i.bytes)) = some (some (.int .i64 0), 1, 8) := by kernel_rfl

theorem quiet_add_left {P : Program} {f : FuncId} {args : Array Value} {w : World} {a n : Nat} {v : Value}
    (h : Calls P f args (w.drewN (a + n)) fun e w' => e = .returned v ∧ w.drewN (a + n) = w') :
    Calls P f args (w.drewN (a + n)) fun e w'' => e = .returned v ∧ ∃ m, w'' = w.drewN (a + m) :=
  h.mono fun _ _ ⟨he, hm⟩ => ⟨he, n, hm.symm⟩
theorem quiet_left {P : Program} {f : FuncId} {args : Array Value} {w : World} {n : Nat} {v : Value}
    (h : Calls P f args (w.drewN n) fun e w' => e = .returned v ∧ w.drewN n = w') : Calls P f args (w.drewN n) fun e w'' => e = .returned v ∧ ∃ m, w'' = w.drewN m :=
  h.mono fun _ _ ⟨he, hm⟩ => ⟨he, n, hm.symm⟩
theorem reads_of_row {w : World} {B g : Nat} {t : TypeId} {α : Type} {xs : List α} {d : α} {F : α → Value} (h : w.rowIs g t xs.length (fun i => F (xs.getD i d))) (hg : g < B) :
    Reads w B 1 (some ⟨g, 0, none⟩) xs.length (xs.map F) := by
  refine ⟨by simp, fun _ => ⟨_, rfl, hg, fun j u hu => ?_⟩⟩
  rw [List.getElem?_map, Option.map_eq_some_iff] at hu
  obtain ⟨x, hx, rfl⟩ := hu
  have hj : j < xs.length := (List.getElem?_eq_some_iff.1 hx).1
  have hc := h.cell hj
  have e : (⟨g, 0, none⟩ : Addr).add j = ⟨g, j, none⟩ := by unfold Addr.add; split <;> simp_all
  rw [e, hc, List.getD_eq_getElem?_getD, hx]
  rfl

theorem reads_lit (w : World) (B : Nat) (t : TypeId) (xs : List Value) (hB : w.heap.size < B) : Reads (w.alloc (.cells xs.toArray t)) B 1 (some ⟨w.heap.size, 0, none⟩) xs.length xs := by
  refine ⟨by simp, fun _ => ⟨_, rfl, hB, fun j u hu => ?_⟩⟩
  have e : (⟨w.heap.size, 0, none⟩ : Addr).add j = ⟨w.heap.size, j, none⟩ := by unfold Addr.add; split <;> simp_all
  rw [e, (Blk.new w t xs.toArray).cell j]
  simpa using hu
theorem reads_lit1 (w : World) (b B : Nat) (t : TypeId) (v : Value) (hb : b = w.heap.size) (hB : w.heap.size < B) : Reads (w.alloc (.cells #[v] t)) B 1 (some ⟨b, 0, none⟩) 1 [v] := by
  subst hb
  exact reads_lit w B t [v] hB
theorem reads_ints (w : World) (B : Nat) (t : TypeId) (xs : List Int) (hB : w.heap.size < B) : Reads (w.alloc (.cells (xs.map (Value.int .i64)).toArray t)) B 1 (some ⟨w.heap.size, 0, none⟩) xs.length (xs.map (.int .i64)) := by
  have := reads_lit w B t (xs.map (Value.int .i64)) hB
  rwa [List.length_map] at this

theorem Reads.drewN {w : World} {B size n : Nat} {A : Option Addr} {xs : List Value} (h : Reads w B size A n xs) (k : Nat) : Reads (w.drewN k) B size A n xs := h
theorem Reads.int_at {w : World} {B : Nat} {A : Option Addr} {xs : List Int} {k : IntKind} {i : Nat} (h : Reads w B 1 A xs.length (xs.map (.int k))) (hi : i < xs.length) :
    ∃ ad, A = some ad ∧ ad.block < B ∧ w.cell? (ad.add i) = some (.int k (xs.getD i 0)) := by
  obtain ⟨ad, u, rfl, hb, hu, hc⟩ := h.at_ hi
  refine ⟨ad, rfl, hb, ?_⟩
  rw [hc, List.getD_eq_getElem?_getD, List.getElem?_eq_getElem hi]
  rw [List.getElem?_map, List.getElem?_eq_getElem hi] at hu
  simpa using hu.symm

def sameL : List Int → List Int → Bool := fun a b => a == b
theorem sameL_step (a b : List Int) (h : a.length = b.length) (he : ∀ j, j < a.length → a.getD j 0 = b.getD j 0) : sameL a b = true := by
  have : a = b := List.ext_getElem h fun i h1 h2 => by
    have := he i h1
    simpa [List.getD_eq_getElem?_getD, h1, h2] using this
  simp [sameL, this]
theorem sameL_no (a b : List Int) (j : Nat) (hne : a.getD j 0 ≠ b.getD j 0) : sameL a b = false := by
  simp only [sameL, beq_eq_false_iff_ne]
  rintro rfl
  exact hne rfl
theorem sameL_len (a b : List Int) (h : a.length ≠ b.length) : sameL a b = false := by
  simp only [sameL, beq_eq_false_iff_ne]
  rintro rfl
  exact h rfl

set_option maxHeartbeats 400000 in
theorem sameInts_any (A B : Option Addr) (c d : Nat) (a b : List Int) (w : World) (N : Nat) (ha : Reads w N 1 A a.length (a.map (.int .i64))) (hb : Reads w N 1 B b.length (b.map (.int .i64)))
    (hla : a.length ≤ 1000000) (_hlb : b.length ≤ 1000000) :
    Calls Try.prog 16 #[.slice A a.length c, .slice B b.length d] w fun e w' => e = .returned (.bool (sameL a b)) ∧ ∃ m, w' = w.drewN m := by
  by_cases hlen : a.length = b.length
  · have S := sameL_step a b hlen
    have S2 := fun j => sameL_no a b j
    have hne : (((a.length : Int)) != (b.length : Int)) = false := by simp [hlen]
    have HL := Lib.hid hlen
    clear hlen
    go_enter Try.func16, Try.ntmps16
    go_wp2_with fail
    go_loopw [5] (fun i wr => ∃ k m : Nat, k ≤ a.length ∧ i = .int .i64 k ∧ wr = w.drewN m ∧ ∀ j, j < k → a.getD j 0 = b.getD j 0)
      (fun i _ => a.length - (intOf i).toNat)
    case atStart => exact ⟨0, 0, Nat.zero_le _, rfl, rfl, by omega⟩
    case round =>
      obtain ⟨k, m, hk, rfl, rfl, hj⟩ := hrel
      have HJ := Lib.hid hj
      clear hj
      by_cases hlt : k < a.length
      · have hlt2 : k < b.length := by have := HL.out; omega
        obtain ⟨aa, rfl, haa, hca⟩ := ha.int_at hlt
        obtain ⟨bb, rfl, hbb, hcb⟩ := hb.int_at hlt2
        obtain ⟨x, hx⟩ : ∃ x, x = a.getD k 0 := ⟨_, rfl⟩
        obtain ⟨y, hy⟩ : ∃ y, y = b.getD k 0 := ⟨_, rfl⟩
        rw [← hx] at hca
        rw [← hy] at hcb
        have HX := Lib.hid hx
        have HY := Lib.hid hy
        have hlti : ((k : Int)) < (a.length : Int) := by omega
        have hlti2 : ((k : Int)) < (b.length : Int) := by omega
        clear hx hy
        by_cases hxy : x = y
        · have hb : (x != y) = false := by simp [hxy]
          have HXY := Lib.hid hxy
          clear hxy
          go_wp2_with fail
          go_quiet (fail)
          go_wp2_with fail
          go_roundw
          case rel =>
            refine ⟨k + 1, _, by omega, by go_num, rfl, fun j hj => ?_⟩
            by_cases h : j = k
            · rw [h, ← HX.out, ← HY.out]; exact HXY.out
            · exact HJ.out j (by omega)
          case measure => simp [intOf]; omega
        · have hb : (x != y) = true := by simp [hxy]
          have HXY := Lib.hid hxy
          clear hxy
          go_wp2_with fail
          go_quiet (fail)
          go_wp2_with fail
          go_ret
          exact ⟨ret_bool (S2 k (by rw [← HX.out, ← HY.out]; exact HXY.out)).symm, _, World.drewN_drewN _ _ _⟩
      · go_wp2_with fail
        go_ret
        exact ⟨ret_bool (S (fun j hj => HJ.out j (by omega))).symm, _, rfl⟩
  · have hne : (((a.length : Int)) != (b.length : Int)) = true := by simp; omega
    have S := sameL_len a b hlen
    go_enter Try.func16, Try.ntmps16
    go_wp2_with fail
    go_ret
    exact ⟨ret_bool S.symm, 0, rfl⟩
end Go.Proofs.Ytfpepgeaaadpdaa
