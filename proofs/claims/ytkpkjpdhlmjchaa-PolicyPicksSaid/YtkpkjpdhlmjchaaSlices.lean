/- slices.Clone and slices.Reverse at []int. -/
import Derived.Test.YtkpkjpdhlmjchaaHeap
import Derived.Test.YtkpkjpdhlmjchaaInts
import Derived.WalkSpells
namespace Go.Proofs.Ytkpkjpdhlmjchaa
open Go Go.RowKit Go.Deep

theorem ints_one (xs : List Int) : ∀ u ∈ xs.map (Value.int .i64), u.oneCell' = true := by
  intro u hu
  obtain ⟨x, _, rfl⟩ := List.mem_map.1 hu
  rfl

theorem clone_int (A : Option Addr) (c : Nat) (xs : List Int) (w : World) (hr : Reads w w.heap.size 1 A xs.length (xs.map (.int .i64))) (hn : xs.length ≤ 65536) :
    Calls Try.prog 102 #[.slice A xs.length c] w fun e w' => ∃ v, e = .returned v ∧ w'.ownsRow w.heap.size 3 1 v xs.length (xs.map (.int .i64)) ∧ Below w.heap.size w w' := by
  obtain ⟨i0, hi0, hz0, hz1, hz2⟩ := info_parts info_int
  have heq := fun (A : Option Addr) (n c : Nat) (W : World) => Lib.run_eql_slice_nil (P := Try.prog) W 66 3 A n c 0 0 Try.underlying66
  rcases A with _ | ad
  · have hl0 : xs.length = 0 := by
      rcases Nat.eq_zero_or_pos xs.length with h | h
      · exact h
      · obtain ⟨_, h, _⟩ := hr.2 h; cases h
    obtain rfl : xs = [] := List.eq_nil_of_length_eq_zero hl0
    go_enter Try.func102, Try.ntmps102
    go_wp2_with fail
    go_ret
    exact ⟨_, rfl, World.ownsRow_nil _ _ _ _, Below.refl _ _⟩
  · go_enter Try.func102, Try.ntmps102
    go_wp2_with (at_builtin; refine wpList_append_any _ rfl (.tmp 5) (.tmp 6) 66 rfl w.heap.size 3 i0 _ 1 8 Try.underlying66 hi0 hz0 hz1 hz2 rfl (by decide) (.slice (some ⟨w.heap.size, 0, none⟩) 0 0) 0 [] rfl (World.ownsRow_made w #[] 0 (Nat.le_refl _) (by unfold maxLen; omega) (by simp)) w.heap.size (some ad) xs.length c (xs.map (.int .i64)) rfl (hr.alloc (Nat.le_refl _) _) (ints_one xs) (by unfold maxLen; omega) (by omega) (by simp) ?_; intro v1 w1 hown1 hg1 hat1)
    have hb : Below w.heap.size w w1 := ((Below.refl _ _).alloc (Nat.le_refl _) _).grown hg1 (by simp) (fun k hk => by simp [Value.ownBlock] at hk; omega)
    clear heq
    go_wp2_with fail
    go_ret
    exact ⟨_, rfl, by simpa using hown1, hb⟩

/-- A row that the call owns is a row of cells that is known whole. -/
theorem row_of_own {w : World} {base n : Nat} {e : TypeId} {v : Value} {xs : List Value} (h : w.ownsRow base e 1 v n xs) (hn : 0 < n) :
    ∃ g cap f, v = .slice (some ⟨g, 0, none⟩) n cap ∧ base ≤ g ∧ n ≤ cap ∧ cap ≤ maxLen ∧ w.rowIs g e cap f ∧ ∀ i u, xs[i]? = some u → f i = u := by
  rcases h.2 with ⟨_, h0⟩ | ⟨g, cap, cur, rfl, hb, hh, hnc, hcap, hsz, htake⟩
  · omega
  · refine ⟨g, cap, fun i => cur.getD i undef, rfl, hb, hnc, hcap, ?_, ?_⟩
    · exact ⟨cur, hh, by omega, fun i hi => by simp [Array.getD_eq_getD_getElem?, Array.getElem?_eq_getElem (show i < cur.size by omega)]⟩
    · intro i u hu
      rw [← htake, List.getElem?_take] at hu
      split at hu
      · simp only [Array.getElem?_toList] at hu
        simp [Array.getD_eq_getD_getElem?, hu]
      · cases hu

def revF (n k : Nat) (f : Nat → Value) (p : Nat) : Value := if p < n ∧ (p < k ∨ n - 1 - k < p) then f (n - 1 - p) else f p

theorem own_of_row {w : World} {base n g cap : Nat} {e : TypeId} {f : Nat → Value} {xs : List Value} (h : w.rowIs g e cap f) (hb : base ≤ g) (hn : n ≤ cap) (hc : cap ≤ maxLen) (hx : xs.length = n) (hf : ∀ i u, xs[i]? = some u → f i = u) :
    w.ownsRow base e 1 (.slice (some ⟨g, 0, none⟩) n cap) n xs := by
  obtain ⟨cur, hh, hs, hcur⟩ := h
  refine ⟨by omega, .inr ⟨g, cap, cur, rfl, hb, hh, hn, hc, by omega, ?_⟩⟩
  refine List.ext_getElem? fun i => ?_
  rw [List.getElem?_take]
  by_cases hi : i < n
  · rw [if_pos (by omega), Array.getElem?_toList, hcur i (by omega), List.getElem?_eq_getElem (by omega), hf i _ (List.getElem?_eq_getElem (by omega))]
  · rw [if_neg (by omega), List.getElem?_eq_none (by omega)]

theorem own_lit (w : World) (base : Nat) (e : TypeId) (xs : List Value) (hb : base ≤ w.heap.size) (hm : xs.length ≤ maxLen) :
    (w.alloc (.cells xs.toArray e)).ownsRow base e 1 (.slice (some ⟨w.heap.size, 0, none⟩) xs.length xs.length) xs.length xs := by
  refine ⟨by simp, .inr ⟨w.heap.size, xs.length, xs.toArray, rfl, hb, Blk.new w e _, Nat.le_refl _, hm, by simp, by simp⟩⟩

end Go.Proofs.Ytkpkjpdhlmjchaa
