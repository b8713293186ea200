/- What a law's world holds at start (Go's table of powers of ten, bytealg's bound); strconv.Itoa, strings.Split, strings.Join by lists of bytes. -/
import Derived.Test.YtodbgjnccngljaaDoorAdF
import Derived.Lib.SplitLaws
namespace Go.Proofs.YtodbgjnccngljaaDoor
open Go Go.RowKit Go.Deep Go.Sort

/-- What a world holds all along: the table of powers of ten; bytealg's bound. -/
def Std (w : World) : Prop := Lib.TabIs Tryd.prog w "internal/strconv.uint64pow10" .u64 Lib.pow10Tab ∧ ∃ m : Int, w.cell? ⟨0, 0, none⟩ = some (.int .i64 m)
theorem Std.below {w w' : World} (h : Std w) (hb : Below w.heap.size w w') : Std w' := by
  obtain ⟨h1, m, h2⟩ := h
  have hg : Tryd.prog.globalNamed "internal/strconv.uint64pow10" = some 1 := by kernel_rfl
  refine ⟨?_, m, (World.cell?_of_block (hb.block _ (World.block_lt_of_cell? w _ h2))).trans h2⟩
  unfold Lib.TabIs World.var? at h1 ⊢
  rw [hg] at h1 ⊢
  simp only [Option.bind_some] at h1 ⊢
  have hlt : 1 < w.heap.size := by
    rcases Nat.lt_or_ge 1 w.heap.size with h | h
    · exact h
    · rw [Array.getElem?_eq_none h] at h1
      simp at h1
  rw [hb.block _ hlt]
  exact h1
theorem below_grow (w : World) (k : Nat) (os : Array Obj) : Below w.heap.size w (grow (w.drewN k) os) :=
  ⟨rfl, rfl, rfl, by unfold grow; simp, fun b hb => heap_grow_old (w.drewN k) os hb⟩
theorem std_itoa (n : Int) (w : World) (hw : Std w) (h0 : -9223372036854775808 ≤ n) (h1 : n ≤ 9223372036854775807) :
    Calls Tryd.prog 36 #[.int .i64 n] w fun e w' => e = .returned (.string ⟨(Lib.itoa n).toArray⟩) ∧ Below w.heap.size w w' := by
  refine (Tryd.strconv_Itoa n h0 h1 w hw.1).mono ?_
  rintro e w' ⟨rfl, k, os, rfl⟩
  exact ⟨rfl, below_grow w k os⟩
abbrev strs (xs : List (List UInt8)) : Array Value := (xs.map fun p => Value.string ⟨p.toArray⟩).toArray
theorem std_split (l : List UInt8) (c : UInt8) (w : World) (hw : Std w) (hl : l.length ≤ 1000000) :
    Calls Tryd.prog 46 #[.string ⟨l.toArray⟩, .string ⟨#[c]⟩] w fun e w' => e = .returned (.slice (some ⟨w.heap.size, 0, none⟩) (parts c l).length (parts c l).length) ∧ Blk w' w.heap.size 9 (strs (parts c l)) ∧ Below w.heap.size w w' := by
  obtain ⟨_, m, hm⟩ := hw
  have h1 : 1 ≤ (ByteArray.mk #[c]).size := Nat.le_refl 1
  have hdat := Lib.splitB_data (ByteArray.mk #[c]) 0 (Lib.countB ⟨l.toArray⟩ ⟨#[c]⟩) ⟨l.toArray⟩
  have hlen := Lib.splitB_all (ByteArray.mk #[c]) h1 0 _ (ByteArray.mk l.toArray) rfl
  have hk : Lib.splitK [c] 0 (Lib.count l [c]) l = parts c l := splitK_eq c l.length l (Nat.le_refl _)
  have hdat2 : (Lib.splitB ⟨#[c]⟩ 0 (Lib.countB ⟨l.toArray⟩ ⟨#[c]⟩) ⟨l.toArray⟩).map (·.data.toList) = parts c l := hdat.trans hk
  have hn : Lib.countB ⟨l.toArray⟩ ⟨#[c]⟩ + 1 = (parts c l).length := by rw [← hdat2, List.length_map, hlen]
  have hv : ((Lib.splitB ⟨#[c]⟩ 0 (Lib.countB ⟨l.toArray⟩ ⟨#[c]⟩) ⟨l.toArray⟩).map Value.string).toArray = strs (parts c l) := by
    unfold strs
    rw [← hdat2, List.map_map]
    rfl
  refine (Tryd.strings_Split ⟨l.toArray⟩ ⟨#[c]⟩ m w (by rw [str_size]; omega) hm h1).mono ?_
  rintro e w' ⟨rfl, rfl⟩
  rw [hn, hv]
  exact ⟨rfl, Blk.new w _ _, (Below.refl _ _).alloc (Nat.le_refl _) _⟩
theorem std_join (xs : List (List UInt8)) (c : UInt8) (b t : Nat) (w : World) (hB : Blk w b t (strs xs)) (hl : (Lib.join xs [c]).length ≤ 140737488355328) (hx : xs.length ≤ 1000000) :
    Calls Tryd.prog 37 #[.slice (some ⟨b, 0, none⟩) xs.length xs.length, .string ⟨#[c]⟩] w fun e w' => e = .returned (.string ⟨(Lib.join xs [c]).toArray⟩) ∧ Below w.heap.size w w' := by
  have hlt := hB.lt
  have hm : (xs.map fun p => ByteArray.mk p.toArray).map (·.data.toList) = xs := by
    rw [List.map_map]
    conv => rhs; rw [← List.map_id xs]
    rfl
  have J := Tryd.strings_Join b 0 xs.length (xs.map fun p => ByteArray.mk p.toArray) ⟨#[c]⟩ w (fun j x hj => by
    rw [Nat.zero_add, hB.cell j]
    unfold strs
    rw [List.getElem?_toArray, List.getElem?_map]
    rw [List.getElem?_map] at hj
    cases hx : xs[j]? with
    | none => rw [hx] at hj; cases hj
    | some p => rw [hx] at hj; cases hj; rfl) hlt (by rw [List.length_map]; omega) (by rw [List.length_map]; exact Nat.le_refl _) (by rw [hm]; exact hl)
  rw [List.length_map, hm] at J
  exact J
end Go.Proofs.YtodbgjnccngljaaDoor
