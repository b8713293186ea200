/- slices.Clone and slices.Reverse at []int. -/
import Derived.Test.YtdkcjfcjckpjcaaHeap
import Derived.Test.YtdkcjfcjckpjcaaInts
import Derived.WalkSpells
namespace Go.Proofs.Ytdkcjfcjckpjcaa
open Go Go.RowKit Go.Deep

theorem ints_one (xs : List Int) : ∀ u ∈ xs.map (Value.int .i64), u.oneCell' = true := by
  intro u hu
  obtain ⟨x, _, rfl⟩ := List.mem_map.1 hu
  rfl

theorem clone_int (A : Option Addr) (c : Nat) (xs : List Int) (w : World) (hr : Reads w w.heap.size 1 A xs.length (xs.map (.int .i64))) (hn : xs.length ≤ 65536) :
    Calls Try.prog 98 #[.slice A xs.length c] w fun e w' => ∃ v, e = .returned v ∧ w'.ownsRow w.heap.size 3 1 v xs.length (xs.map (.int .i64)) ∧ Below w.heap.size w w' := by
  obtain ⟨i0, hi0, hz0, hz1, hz2⟩ := info_parts info_int
  have heq := fun (A : Option Addr) (n c : Nat) (W : World) => Lib.run_eql_slice_nil (P := Try.prog) W 22 3 A n c 0 0 Try.underlying22
  rcases A with _ | ad
  · have hl0 : xs.length = 0 := by
      rcases Nat.eq_zero_or_pos xs.length with h | h
      · exact h
      · obtain ⟨_, h, _⟩ := hr.2 h; cases h
    obtain rfl : xs = [] := List.eq_nil_of_length_eq_zero hl0
    go_enter Try.func98, Try.ntmps98
    go_wp2_with fail
    go_ret
    exact ⟨_, rfl, World.ownsRow_nil _ _ _ _, Below.refl _ _⟩
  · go_enter Try.func98, Try.ntmps98
    go_wp2_with (at_builtin; refine wpList_append_any _ rfl (.tmp 5) (.tmp 6) 22 rfl w.heap.size 3 i0 _ 1 8 Try.underlying22 hi0 hz0 hz1 hz2 rfl (by decide) (.slice (some ⟨w.heap.size, 0, none⟩) 0 0) 0 [] rfl (World.ownsRow_made w #[] 0 (Nat.le_refl _) (by unfold maxLen; omega) (by simp)) w.heap.size (some ad) xs.length c (xs.map (.int .i64)) rfl (hr.alloc (Nat.le_refl _) _) (ints_one xs) (by unfold maxLen; omega) (by omega) (by simp) ?_; intro v1 w1 hown1 hg1 hat1)
    have hb : Below w.heap.size w w1 := ((Below.refl _ _).alloc (Nat.le_refl _) _).grown hg1 (by simp) (fun k hk => by simp [Value.ownBlock] at hk; omega)
    clear heq
    go_wp2_with fail
    go_ret
    exact ⟨_, rfl, by simpa using hown1, hb⟩

/-- A row that the call owns is a row of cells that is known whole. -/
theorem row_of_own {w : World} {base n : Nat} {e : TypeId} {v : Value} {xs : List Value} (h : w.ownsRow base e 1 v n xs) (hn : 0 < n) :
    ∃ g cap f, v = .slice (some ⟨g, 0, none⟩) n cap ∧ base ≤ g ∧ n ≤ cap ∧ cap ≤ maxLen ∧ w.rowIs g e cap f ∧ ∀ i u, xs[i]? = some u → f i = u := by
  rcases h.2 with ⟨_, h0⟩ | ⟨g, cap, cur, rfl, hb, hh, hnc, hcap, hsz, htake⟩
  · omega
  · refine ⟨g, cap, fun i => cur.getD i undef, rfl, hb, hnc, hcap, ?_, ?_⟩
    · exact ⟨cur, hh, by omega, fun i hi => by simp [Array.getD_eq_getD_getElem?, Array.getElem?_eq_getElem (show i < cur.size by omega)]⟩
    · intro i u hu
      rw [← htake, List.getElem?_take] at hu
      split at hu
      · simp only [Array.getElem?_toList] at hu
        simp [Array.getD_eq_getD_getElem?, hu]
      · cases hu

def revF (n k : Nat) (f : Nat → Value) (p : Nat) : Value := if p < n ∧ (p < k ∨ n - 1 - k < p) then f (n - 1 - p) else f p

set_option maxHeartbeats 400000 in
theorem reverse_int (g n c N : Nat) (f : Nat → Value) (hint : ∀ i, i < n → ∃ x, f i = .int .i64 x) (w : World) (h : w.rowIs g 3 N f) (hn : n ≤ N) (hN : n ≤ 1000000) :
    Calls Try.prog 99 #[.slice (some ⟨g, 0, none⟩) n c] w fun e w' => e = .returned (.tuple #[]) ∧ w'.rowIs g 3 N (fun i => if i < n then f (n - 1 - i) else f i) ∧ Chg (· = g) w w' := by
  rcases Nat.eq_zero_or_pos n with rfl | hpos
  · go_enter Try.func99, Try.ntmps99
    go_wp2_with fail
    refine wp_loop_rounds 1 ?_
    rw [rounds_succ]
    go_wp2_with fail
    go_end0
    exact ⟨rfl, h.congr (fun i hi => by simp), Chg.refl _ _⟩
  · have hz : ((n : Int)) - 1 = ((n - 1 : Nat) : Int) := by omega
    go_enter Try.func99, Try.ntmps99
    go_wp2_with fail
    clear hz
    go_loopw [2, 3] (fun i j wr => ∃ k m : Nat, k + m ≤ n - 1 ∧ n - 1 ≤ k + m ∧ i = .int .i64 k ∧ j = .int .i64 m ∧ wr.rowIs g 3 N (revF n k f) ∧ Chg (· = g) w wr) (fun i _ _ => n - (intOf i).toNat)
    case atStart =>
      refine ⟨0, n - 1, by omega, by omega, rfl, rfl, h.congr (fun i hi => ?_), Chg.refl _ _⟩
      have : ¬ (i < n ∧ (i < 0 ∨ n - 1 - 0 < i)) := by omega
      simp only [revF, if_neg this]
    case round =>
      obtain ⟨k, m, h1, h2, rfl, rfl, hrow, hch⟩ := hrel
      by_cases hlt : k < m
      · have hck := hrow.cell (i := k) (by omega)
        have hcm := hrow.cell (i := m) (by omega)
        have hfk := hrow.frozen k
        have hfm := hrow.frozen m
        obtain ⟨x, hx⟩ := hint k (by omega)
        obtain ⟨y, hy⟩ := hint m (by omega)
        have ek : revF n k f k = f k := by simp only [revF]; rw [if_neg (by omega)]
        have em : revF n k f m = f m := by simp only [revF]; rw [if_neg (by omega)]
        rw [ek, hx] at hck
        rw [em, hy] at hcm
        clear ek em
        replace hx := Lib.hid hx
        replace hy := Lib.hid hy
        have b1 : (k : Int) < (n : Int) := by omega
        have b2 : (m : Int) < (n : Int) := by omega
        have hkm : k ≠ m := by omega
        have hmk : m ≠ k := by omega
        go_wp2_with fail
        go_region
        have hm1 : 1 ≤ m := by omega
        go_wp2_with fail
        go_roundw
        case rel =>
          refine ⟨k + 1, m - 1, by omega, by omega, by go_num, by go_num, (((hrow.set k _).set m _).drew).congr (fun p hp => ?_), ((hch.setCell (fun _ => rfl) _).setCell (fun _ => rfl) _).drew⟩
          rw [← hx.out, ← hy.out]
          by_cases e1 : p = m
          · subst e1
            rw [if_pos rfl]
            simp only [revF]
            rw [if_pos (by omega), show n - 1 - p = k by omega]
          · rw [if_neg e1]
            by_cases e2 : p = k
            · subst e2
              rw [if_pos rfl]
              simp only [revF]
              rw [if_pos (by omega), show n - 1 - p = m by omega]
            · rw [if_neg e2]
              simp only [revF]
              by_cases e3 : p < n ∧ (p < k ∨ n - 1 - k < p)
              · rw [if_pos e3, if_pos (by omega)]
              · rw [if_neg e3, if_neg (by omega)]
        case measure => simp [intOf]; omega
      · go_wp2_with fail
        go_end0
        refine ⟨rfl, hrow.congr (fun i hi => ?_), hch⟩
        unfold revF
        by_cases hin : i < n
        · by_cases h3 : i < k ∨ n - 1 - k < i
          · rw [if_pos ⟨hin, h3⟩, if_pos hin]
          · rw [if_neg (by omega), if_pos hin, show n - 1 - i = i by omega]
        · rw [if_neg (by omega), if_neg hin]

theorem own_of_row {w : World} {base n g cap : Nat} {e : TypeId} {f : Nat → Value} {xs : List Value} (h : w.rowIs g e cap f) (hb : base ≤ g) (hn : n ≤ cap) (hc : cap ≤ maxLen) (hx : xs.length = n) (hf : ∀ i u, xs[i]? = some u → f i = u) :
    w.ownsRow base e 1 (.slice (some ⟨g, 0, none⟩) n cap) n xs := by
  obtain ⟨cur, hh, hs, hcur⟩ := h
  refine ⟨by omega, .inr ⟨g, cap, cur, rfl, hb, hh, hn, hc, by omega, ?_⟩⟩
  refine List.ext_getElem? fun i => ?_
  rw [List.getElem?_take]
  by_cases hi : i < n
  · rw [if_pos (by omega), Array.getElem?_toList, hcur i (by omega), List.getElem?_eq_getElem (by omega), hf i _ (List.getElem?_eq_getElem (by omega))]
  · rw [if_neg (by omega), List.getElem?_eq_none (by omega)]

theorem own_lit (w : World) (base : Nat) (e : TypeId) (xs : List Value) (hb : base ≤ w.heap.size) (hm : xs.length ≤ maxLen) :
    (w.alloc (.cells xs.toArray e)).ownsRow base e 1 (.slice (some ⟨w.heap.size, 0, none⟩) xs.length xs.length) xs.length xs := by
  refine ⟨by simp, .inr ⟨w.heap.size, xs.length, xs.toArray, rfl, hb, Blk.new w e _, Nat.le_refl _, hm, by simp, by simp⟩⟩

theorem reverse_own (A : Option Addr) (base n c : Nat) (xs : List Int) (w : World) (h : w.ownsRow base 3 1 (.slice A n c) n (xs.map (.int .i64))) (hN : n ≤ 1000000) :
    Calls Try.prog 99 #[.slice A n c] w fun e w' => e = .returned (.tuple #[]) ∧ w'.ownsRow base 3 1 (.slice A n c) n (xs.reverse.map (.int .i64)) ∧ Chg (fun b => (Value.slice A n c).ownBlock = some b) w w' := by
  have hxl : xs.length = n := by have := h.1; simpa using this
  rcases Nat.eq_zero_or_pos n with rfl | hpos
  · obtain rfl : xs = [] := List.eq_nil_of_length_eq_zero hxl
    go_enter Try.func99, Try.ntmps99
    go_wp2_with fail
    refine wp_loop_rounds 1 ?_
    rw [rounds_succ]
    go_wp2_with fail
    go_end0
    exact ⟨rfl, h, Chg.refl _ _⟩
  · obtain ⟨g, cap, f, hv, hb, hnc, hcap, hrow, hf⟩ := row_of_own h hpos
    cases hv
    have hf' : ∀ i, i < n → f i = .int .i64 (xs.getD i 0) := fun i hi => hf i _ (by
      rw [List.getElem?_map, List.getElem?_eq_getElem (by omega), List.getD_eq_getElem?_getD, List.getElem?_eq_getElem (by omega)]; rfl)
    refine (reverse_int g n c c f (fun i hi => ⟨_, hf' i hi⟩) w hrow hnc hN).mono ?_
    rintro e w' ⟨rfl, hrow', hch⟩
    refine ⟨rfl, own_of_row hrow' hb hnc hcap (by simp [hxl]) ?_, hch.mono (fun b _ hb => by rw [hb]; rfl)⟩
    intro i u hu
    have hi : i < n := by
      have := (List.getElem?_eq_some_iff.1 hu).1
      simpa [hxl] using this
    simp only [if_pos hi]
    rw [hf' _ (by omega)]
    rw [List.getElem?_map, List.getElem?_reverse (by omega), hxl, List.getElem?_eq_getElem (by omega)] at hu
    rw [List.getD_eq_getElem?_getD, List.getElem?_eq_getElem (by omega)]
    simpa using hu
end Go.Proofs.Ytdkcjfcjckpjcaa
