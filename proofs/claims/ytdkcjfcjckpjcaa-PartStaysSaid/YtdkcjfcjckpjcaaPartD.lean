/- part: the law PartTells, called. -/
import Derived.Test.YtdkcjfcjckpjcaaOpenA
namespace Go.Proofs.Ytdkcjfcjckpjcaa
open Go Go.RowKit Go.Deep

theorem spreadL_some (a b : Int) (l : List Tup) (n : Nat) (h : mayB (n : Int) = true) : (spreadL a b l n).length = n ∧ ∀ i, i < n → (spreadL a b l n).getD i 0 = (cntP a b l n i : Nat) := by
  unfold spreadL
  rw [if_pos h]
  refine ⟨by simp, fun i hi => ?_⟩
  simp [List.getD_eq_getElem?_getD, hi]
theorem spreadL_none (a b : Int) (l : List Tup) (n : Int) (h : mayB n = false) : spreadL a b l n = [] := by unfold spreadL; rw [h]; rfl
theorem mayB_nat {n : Int} (h : mayB n = true) : ∃ m : Nat, n = m ∧ 1 ≤ m ∧ m ≤ 16 := by
  have hn : 1 ≤ n ∧ n ≤ 16 := by simpa [mayB] using h
  exact ⟨n.toNat, by omega, by omega, by omega⟩
theorem spreadL_le (a b : Int) (l : List Tup) (n : Int) : (spreadL a b l n).length ≤ 16 := by
  by_cases h : mayB n = true
  · obtain ⟨m, rfl, h1, h2⟩ := mayB_nat h
    rw [(spreadL_some a b l m h).1]; exact h2
  · rw [spreadL_none a b l n (by simpa using h)]; simp

def OutInts (w : World) (L : List Int) (e : Ending) (w' : World) : Prop := ∃ A c, e = .returned (.slice A L.length c) ∧ Reads w' w'.heap.size 1 A L.length (L.map (.int .i64)) ∧ Below w.heap.size w w'
theorem out_row {w w' : World} {L : List Int} {g n c : Nat} {t : TypeId} {f : Nat → Value} (hr : w'.rowIs g t n f) (hn : L.length = n) (hf : ∀ i, i < n → f i = .int .i64 (L.getD i 0)) (hb : Below w.heap.size w w') : OutInts w L (.returned (.slice (some ⟨g, 0, none⟩) n c)) w' := by
  subst hn
  exact ⟨_, c, rfl, reads_of_row (F := Value.int .i64) (d := 0) (hr.congr hf) hr.lt, hb⟩
theorem spread_any (a b : Int) (l : List Tup) (n : Int) (A : Option Addr) (c : Nat) (w : World) (hr : Reads w w.heap.size 9 A l.length (l.flatMap Tup.cells)) (hl : l.length ≤ 1000000) :
    Calls Try.prog 95 #[.agg #[.int .u64 a, .int .u64 b], .slice A l.length c, .int .i64 n] w (OutInts w (spreadL a b l n)) := by
  by_cases h : mayB n = true
  · obtain ⟨m, rfl, h1, h2⟩ := mayB_nat h
    obtain ⟨s1, s2⟩ := spreadL_some a b l m h
    refine (spread_some a b l m A c w h hr hl).mono ?_
    rintro e w' ⟨rfl, hrow, hb⟩
    exact out_row hrow s1 (fun i hi => by rw [s2 i hi]) hb
  · have h' : mayB n = false := by simpa using h
    refine (spread_none a b l n A c w h').mono ?_
    rintro e w' ⟨rfl, hb⟩
    rw [spreadL_none a b l n h']
    exact ⟨none, 0, rfl, Reads.none_, hb⟩
theorem refspread_any (a b : Int) (l : List Tup) (n : Int) (A : Option Addr) (c : Nat) (w : World) (hwf : ∀ t ∈ l, tupWf t) (hr : Reads w w.heap.size 9 A l.length (l.flatMap Tup.cells)) (hl : l.length ≤ 1000000) :
    Calls Try.prog 96 #[.agg #[.int .u64 a, .int .u64 b], .slice A l.length c, .int .i64 n] w (OutInts w (spreadL a b l n)) := by
  by_cases h : mayB n = true
  · obtain ⟨m, rfl, h1, h2⟩ := mayB_nat h
    obtain ⟨s1, s2⟩ := spreadL_some a b l m h
    refine (refspread_some a b l m A c w h hwf hr hl).mono ?_
    rintro e w' ⟨rfl, hrow, hb⟩
    exact out_row hrow s1 (fun i hi => by rw [s2 i hi]) hb
  · have h' : mayB n = false := by simpa using h
    refine (refspread_none a b l n A c w h').mono ?_
    rintro e w' ⟨rfl, hb⟩
    rw [spreadL_none a b l n h']
    exact ⟨none, 0, rfl, Reads.none_, hb⟩

theorem instV_01 (q : Nat) (h : q < 2 ∨ q = 0) : instV [false, true] q = (1, true) := by
  have : q = 0 ∨ q = 1 := by omega
  rcases this with rfl | rfl <;> rfl
theorem partI_one (a b : Int) (t : Tup) : partI a b t 1 = 0 := by
  have h := partI_lt a b t 1 rfl
  omega
set_option maxHeartbeats 1000000 in
theorem awake15 (w : World) : Calls Try.prog 90 #[] w fun e w' => e = .returned (.bool true) ∧ Below w.heap.size w w' := by
  have I := fun W A c hr => instance_any 0 0 ⟨0, false, 0, 0, false, 0, 0, 0, 0⟩ [false, true] A c W hr (by simp)
  have hI : instI 0 0 ⟨0, false, 0, 0, false, 0, 0, 0, 0⟩ [false, true] = (1, true) := by
    unfold instI
    obtain ⟨q, hq, hqn⟩ := partI_rng 0 0 ⟨0, false, 0, 0, false, 0, 0, 0, 0⟩ 2
    have hq' : partI 0 0 ⟨0, false, 0, 0, false, 0, 0, 0, 0⟩ (([false, true] : List Bool).length : Int) = (q : Int) := hq
    rw [if_neg (by simp), hq', Int.toNat_natCast, instV_01 q hqn]
  have O := fun W => part_of 1 0 ⟨0, false, 0, 0, false, 0, 0, 0, 0⟩ 1 W
  have SP := fun W => spread_any 0 0 [] 3 none 0 W Reads.none_ (by simp)
  have hL := (spreadL_some 0 0 [] 3 rfl).1
  have hL2 : (spreadL 0 0 [] ((3 : Nat) : Int)).length = 3 := hL
  obtain ⟨L, hLL⟩ : ∃ L, spreadL 0 0 [] 3 = L := ⟨_, rfl⟩
  rw [show (((3 : Nat) : Int)) = 3 from rfl, hLL] at hL2
  rw [hLL] at SP
  rw [partI_one] at O
  rw [hI] at I
  unfold Tup.val at I O
  dsimp only at I O
  replace I := Lib.hid I
  replace O := Lib.hid O
  replace SP := Lib.hid SP
  have hl3 : ((L.length : Int) == 3) = true := by rw [hL2]; rfl
  clear hI hL hLL hL2
  go_enter Try.func90, Try.ntmps90
  go_wp2_with fail
  refine (I.out _ _ 2 (reads_lit w _ 4 [.bool false, .bool true] (by simp))).mono ?_
  rintro e w1 ⟨rfl, hb1⟩
  go_wp2_with fail
  refine (O.out _).mono ?_
  rintro e w2 ⟨rfl, hb2⟩
  go_wp2_with fail
  refine (SP.out _).mono ?_
  rintro e w3 ⟨A, c, rfl, hr3, hb3⟩
  go_wp2_with fail
  go_ret
  exact ⟨rfl, (by repeat (first | exact Below.refl _ _ | assumption | refine below_alloc ?_ _ | refine below_chain (by assumption) ?_ | refine below_call2 (by assumption) ?_ (by first | omega | (simp; done) | (simp; omega) | (simp [World.setCell]; omega)) | refine below_drewN ?_ _ | refine Below.drew ?_ | refine Below.alloc ?_ (by first | omega | (simp; done) | (simp; omega) | (simp [World.setCell]; omega)) _ | refine Below.setCell ?_ (by first | omega | (simp; done) | (simp; omega) | (simp [World.setCell]; omega)) _))⟩
end Go.Proofs.Ytdkcjfcjckpjcaa
