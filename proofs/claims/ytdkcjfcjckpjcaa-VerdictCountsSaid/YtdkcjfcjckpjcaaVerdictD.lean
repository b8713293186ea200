/- verdict: Reasons, Name, boards that are none, awake. -/
import Derived.Test.YtdkcjfcjckpjcaaVerdictC
import Derived.Test.YtdkcjfcjckpjcaaInts
namespace Go.Proofs.Ytdkcjfcjckpjcaa
open Go Go.RowKit Go.Deep

theorem info_errno : (Try.prog.info? 50).map (fun i => (i.zero, i.size, i.bytes)) = some (some (.int .i64 0), 1, 8) := by kernel_rfl
def RS (f : Nat → Int) (x : Int) : Int := if 0 ≤ x ∧ x ≤ 16 then f (4 + x.toNat) else 0
def rsTo (f : Nat → Int) (k : Nat) : List Int := ((List.range k).map fun j => ((j : Nat) : Int) + 1).filter fun e => decide (0 < RS f e)
def rs (f : Nat → Int) : List Int := rsTo f 16
theorem rsTo_succ (f : Nat → Int) (k : Nat) : rsTo f (k + 1) = rsTo f k ++ if 0 < RS f ((k : Int) + 1) then [(k : Int) + 1] else [] := by
  unfold rsTo
  rw [List.range_succ, List.map_append, List.filter_append]
  congr 1
  simp only [List.map_cons, List.map_nil, List.filter_cons, List.filter_nil, decide_eq_true_eq]
theorem rsTo_len (f : Nat → Int) (k : Nat) : (rsTo f k).length ≤ k := by
  have := List.length_filter_le (fun e => decide (0 < RS f e)) ((List.range k).map fun j => ((j : Nat) : Int) + 1)
  simpa [rsTo] using this
theorem reasonS (g : Nat) (f : Nat → Int) (k y : Int) (w : World) (h : BoardP w g f) (hy : RS f k = y) :
    Calls Try.prog 55 #[.pointer (some ⟨g, 0, none⟩), .int .i64 k] w fun e w' => e = .returned (.int .i64 y) ∧ w = w' := by
  subst hy
  exact reason_any g f k w h

set_option maxHeartbeats 1000000 in
theorem reasons_any (g : Nat) (f : Nat → Int) (w : World) (h : BoardP w g f) :
    Calls Try.prog 52 #[.pointer (some ⟨g, 0, none⟩)] w fun e w' => ∃ A c, e = .returned (.slice A (rs f).length c) ∧ w'.ownsRow w.heap.size 50 1 (.slice A (rs f).length c) (rs f).length ((rs f).map (.int .i64)) ∧ Below w.heap.size w w' := by
  obtain ⟨i0, hi0, hz0, hz1, hz2⟩ := info_parts info_errno
  go_enter Try.func52, Try.ntmps52
  go_wp2_with fail
  go_loopw [3, 4] (fun s i wr => ∃ (k : Nat) (A : Option Addr) (c : Nat), k ≤ 16 ∧ i = .int .i64 ((k : Int) + 1) ∧ s = .slice A (rsTo f k).length c ∧ wr.ownsRow w.heap.size 50 1 (.slice A (rsTo f k).length c) (rsTo f k).length ((rsTo f k).map (.int .i64)) ∧ Below w.heap.size w wr) (fun _ i _ => 17 - (intOf i).toNat)
  case atStart => exact ⟨0, none, 0, by omega, rfl, rfl, World.ownsRow_nil _ _ _ _, Below.refl _ _⟩
  case round =>
    obtain ⟨k, A, c, hk, rfl, rfl, hown, hbw⟩ := hrel
    have hB := h.below hbw h.lt
    clear h
    have hlen := rsTo_len f k
    obtain ⟨n, hn⟩ : ∃ n, n = (rsTo f k).length := ⟨_, rfl⟩
    rw [← hn] at hown hlen ⊢
    by_cases hlt : k < 16
    · have C := fun W => known_yes ((k : Int) + 1) W (by omega) (by omega)
      obtain ⟨y, hy⟩ : ∃ y, RS f ((k : Int) + 1) = y := ⟨_, rfl⟩
      have D := reasonS g f ((k : Int) + 1) y wr hB hy
      have hbz := hbw.size
      by_cases hp : 0 < y
      · have hbl := hown.alloc (.cells #[.int .i64 ((k : Int) + 1)] 50)
        have e1 : rsTo f (k + 1) = rsTo f k ++ [(k : Int) + 1] := by rw [rsTo_succ, hy, if_pos hp]
        replace e1 := Lib.hid e1
        replace hy := Lib.hid hy
        replace hn := Lib.hid hn
        replace C := Lib.hid C
        replace D := Lib.hid D
        go_wp2_with (first
          | (go_at_call 105; refine (C.out _).mono ?_; rintro e w' ⟨rfl, rfl⟩)
          | (go_at_call 55; refine D.out.mono ?_; rintro e w' ⟨rfl, rfl⟩)
          | (at_builtin; refine wpList_append_sl _ rfl (.tmp 13) (.tmp 15) 65 rfl w.heap.size 50 i0 _ 1 8 Try.underlying65 hi0 hz0 hz1 hz2 rfl (by decide) (.slice A n c) n ((rsTo f k).map (.int .i64)) rfl hbl (wr.heap.size + 1) (some ⟨wr.heap.size, 0, none⟩) 1 1 [.int .i64 ((k : Int) + 1)] rfl (reads_lit1 _ _ _ _ _ (by simp) (by simp)) (by simp [Value.oneCell']) (by unfold maxLen; omega) (by omega) (by simp; omega) ?_; intro A1 cp1 w1 hown2 hg1 hat1))
        have hz1 := hg1.size
        rw [World.size_alloc] at hz1
        go_roundw
        case rel =>
          have hb2 : Below w.heap.size w w1 := ((hbw.alloc (by omega) _).grown hg1 (by simp; omega) (fun j hj => by have := (hown.lt _ hj).1; omega))
          have hl : (rsTo f (k + 1)).length = n + 1 := by rw [e1.out, hn.out]; simp
          exact ⟨k + 1, A1, cp1, by omega, by go_num, by rw [hl], by rw [hl, e1.out, List.map_append]; exact hown2, hb2⟩
        case measure => simp [intOf]; omega
      · have e1 : rsTo f (k + 1) = rsTo f k := by rw [rsTo_succ, hy, if_neg hp, List.append_nil]
        have hb : decide (0 < y) = false := by simp; omega
        clear hp
        replace e1 := Lib.hid e1
        replace hy := Lib.hid hy
        replace hn := Lib.hid hn
        replace C := Lib.hid C
        replace D := Lib.hid D
        go_wp2_with (first
          | (go_at_call 105; refine (C.out _).mono ?_; rintro e w' ⟨rfl, rfl⟩)
          | (go_at_call 55; refine D.out.mono ?_; rintro e w' ⟨rfl, rfl⟩))
        go_roundw
        case rel => exact ⟨k + 1, A, c, by omega, by go_num, by rw [e1.out, ← hn.out], by rw [e1.out, ← hn.out]; exact hown, hbw⟩
        case measure => simp [intOf]; omega
    · obtain rfl : k = 16 := by omega
      have C := fun W => known_no (((16 : Nat) : Int) + 1) W (by omega)
      have hn' : n = (rs f).length := hn
      replace hn := Lib.hid hn'
      replace C := Lib.hid C
      go_wp2_with (go_at_call 105; refine (C.out _).mono ?_; rintro e w' ⟨rfl, rfl⟩)
      go_ret
      rw [← hn.out]
      exact ⟨_, _, rfl, hown, hbw⟩

/-! Boards that are none. -/
theorem put_nil (v : Vd) (w : World) : Calls Try.prog 62 #[.pointer none, .agg v.cells] w fun e w' => e = .returned (.bool false) ∧ Below w.heap.size w w' := by
  obtain ⟨k, er, b, c, fi, s⟩ := v
  go_enter Try.func62, Try.ntmps62
  go_wp2
  go_ret
  exact ⟨rfl, (by repeat (first | exact Below.refl _ _ | assumption | refine below_call2 (by assumption) ?_ (by first | omega | (simp; done) | (simp; omega) | (simp [World.setCell]; omega)) | refine below_drewN ?_ _ | refine Below.drew ?_ | refine Below.alloc ?_ (by first | omega | (simp; done) | (simp; omega) | (simp [World.setCell]; omega)) _ | refine Below.setCell ?_ (by first | omega | (simp; done) | (simp; omega) | (simp [World.setCell]; omega)) _))⟩
theorem kind_nil (k : Int) (w : World) : Calls Try.prog 53 #[.pointer none, .int .i64 k] w fun e w' => e = .returned (.int .i64 0) ∧ w = w' := by
  go_enter Try.func53, Try.ntmps53
  go_wp2
  go_ret
  exact ⟨rfl, rfl⟩
theorem reason_nil (k : Int) (w : World) : Calls Try.prog 55 #[.pointer none, .int .i64 k] w fun e w' => e = .returned (.int .i64 0) ∧ w = w' := by
  go_enter Try.func55, Try.ntmps55
  go_wp2
  go_ret
  exact ⟨rfl, rfl⟩
theorem firsts_nil (w : World) : Calls Try.prog 57 #[.pointer none] w fun e w' => e = .returned (.int .i64 0) ∧ w = w' := by
  go_enter Try.func57, Try.ntmps57
  go_wp2
  go_ret
  exact ⟨rfl, rfl⟩
theorem bytes_nil (w : World) : Calls Try.prog 58 #[.pointer none] w fun e w' => e = .returned (.int .i64 0) ∧ w = w' := by
  go_enter Try.func58, Try.ntmps58
  go_wp2
  go_ret
  exact ⟨rfl, rfl⟩
theorem add_nil1 (v : Option Addr) (w : World) : Calls Try.prog 46 #[.pointer none, .pointer v] w fun e w' => e = .returned (.tuple #[]) ∧ w = w' := by
  go_enter Try.func46, Try.ntmps46
  go_wp2
  (try simp only [Exit.inBlock, Exit.then]); refine bodyPost_ret (results_none rfl _ _ _) rfl ?_
  exact ⟨rfl, rfl⟩
theorem add_nil2 (g : Nat) (w : World) : Calls Try.prog 46 #[.pointer (some ⟨g, 0, none⟩), .pointer none] w fun e w' => e = .returned (.tuple #[]) ∧ w = w' := by
  go_enter Try.func46, Try.ntmps46
  go_wp2
  (try simp only [Exit.inBlock, Exit.then]); refine bodyPost_ret (results_none rfl _ _ _) rfl ?_
  exact ⟨rfl, rfl⟩
theorem reasons_nil (w : World) : Calls Try.prog 52 #[.pointer none] w fun e w' => e = .returned (.slice none 0 0) ∧ w = w' := by
  go_enter Try.func52, Try.ntmps52
  go_wp2_with fail
  go_loop [3, 4] (fun s i => ∃ k : Nat, k ≤ 16 ∧ i = .int .i64 ((k : Int) + 1) ∧ s = .slice none 0 0) (fun _ i => 17 - (intOf i).toNat)
  case atStart => exact ⟨0, by omega, rfl, rfl⟩
  case round =>
    obtain ⟨k, hk, rfl, rfl⟩ := hrel
    by_cases hlt : k < 16
    · have C := fun W => known_yes ((k : Int) + 1) W (by omega) (by omega)
      replace C := Lib.hid C
      go_wp2_with (first
        | (go_at_call 105; refine (C.out _).mono ?_; rintro e w' ⟨rfl, rfl⟩)
        | (go_at_call 55; refine (reason_nil _ _).mono ?_; rintro e w' ⟨rfl, rfl⟩))
      go_round
      case rel => exact ⟨k + 1, by omega, by go_num, rfl⟩
      case measure => simp [intOf]; omega
    · obtain rfl : k = 16 := by omega
      have C := fun W => known_no (((16 : Nat) : Int) + 1) W (by omega)
      replace C := Lib.hid C
      go_wp2_with (go_at_call 105; refine (C.out _).mono ?_; rintro e w' ⟨rfl, rfl⟩)
      go_ret
      exact ⟨rfl, rfl⟩

end Go.Proofs.Ytdkcjfcjckpjcaa
