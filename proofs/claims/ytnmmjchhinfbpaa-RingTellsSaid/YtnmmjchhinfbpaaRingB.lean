/- ring: a ring in memory; given, Points; the search. -/
import Derived.Test.YtnmmjchhinfbpaaRingA
import Derived.Test.YtnmmjchhinfbpaaKit
import Derived.Test.YtnmmjchhinfbpaaTuple
import Derived.Test.YtnmmjchhinfbpaaSipQ
import Derived.Deep.RegionHeld3
import Derived.Deep.Cut
namespace Go.Proofs.Ytnmmjchhinfbpaa
open Go Go.RowKit Go.Deep

abbrev pcell (x : Pt) : List Value := [.int .i64 x.1, .int .u64 x.2]
theorem pcell_one (x : Pt) : ∀ u ∈ pcell x, u.oneCell' = true := by
  intro u hu
  simp at hu
  rcases hu with rfl | rfl <;> rfl
theorem pt_at {w : World} {B : Nat} {A : Option Addr} {S : List Pt} (h : Reads w B 2 A S.length (S.flatMap pcell)) {k : Nat} (hk : k < S.length) :
    ∃ ad, A = some ad ∧ ad.block < B ∧ w.cell? (ad.add (k * 2)) = some (.int .i64 (S.getD k (0, 0)).1) ∧ w.cell? ⟨(ad.add (k * 2)).block, (ad.add (k * 2)).off + 1, none⟩ = some (.int .u64 (S.getD k (0, 0)).2) := by
  obtain ⟨ad, rfl, hb, hc⟩ := h.rec_at pcell (fun _ => rfl) hk
  rw [List.getD_eq_getElem?_getD, List.getElem?_eq_getElem hk]
  exact ⟨ad, rfl, hb, hc 0 _ rfl, hc 1 _ rfl⟩
/-- Points rising, fit to be searched. -/
structure PtsOk (S : List Pt) : Prop where
  ne : 0 < S.length
  le : S.length ≤ 65536
  st : ptSorted S
  rg : ∀ p ∈ S, 0 ≤ p.2 ∧ p.2 < 18446744073709551616
theorem PtsOk.at_ {S : List Pt} (h : PtsOk S) {k : Nat} (hk : k < S.length) : ∃ v : Nat, (S.getD k (0, 0)).2 = (v : Int) ∧ v < 18446744073709551616 := by
  rw [List.getD_eq_getElem?_getD, List.getElem?_eq_getElem hk]
  have := h.rg _ (List.getElem_mem hk)
  exact ⟨(S[k]).2.toNat, by simp only [Option.getD_some]; omega, by omega⟩
def RingAt (w : World) (g : Nat) (ka kb : Int) (S : List Pt) : Prop :=
  ∃ ad cap, Blk w g 77 #[.int .u64 ka, .int .u64 kb, .slice (some ad) S.length cap] ∧ Reads w w.heap.size 2 (some ad) S.length (S.flatMap pcell)
theorem RingAt.call {w w' : World} {g : Nat} {ka kb : Int} {S : List Pt} (h : RingAt w g ka kb S) (hb : Below w.heap.size w w') : RingAt w' g ka kb S := by
  obtain ⟨ad, cap, h1, h2⟩ := h
  exact ⟨ad, cap, h1.call hb, (h2.below hb).more hb.size⟩
theorem rgiven_nil (w : World) : Calls Try.prog 36 #[.pointer none] w fun e w' => e = .returned (.bool false) ∧ w = w' := by
  go_enter Try.func36, Try.ntmps36
  go_wp2_with fail
  go_ret
  exact ⟨rfl, rfl⟩
theorem rgiven_plain {g : Nat} {ka kb : Int} {w : World} (h : Blk w g 77 #[.int .u64 ka, .int .u64 kb, .slice none 0 0]) : Calls Try.prog 36 #[.pointer (some ⟨g, 0, none⟩)] w fun e w' => e = .returned (.bool false) ∧ w = w' := by
  have c2 := h.cell 2
  simp only [List.getElem?_toArray, List.getElem?_cons_zero, List.getElem?_cons_succ] at c2
  clear h
  go_enter Try.func36, Try.ntmps36
  go_wp2_with fail
  go_ret
  exact ⟨rfl, rfl⟩
theorem rgiven_any {g : Nat} {ka kb : Int} {S : List Pt} {w : World} (h : RingAt w g ka kb S) (h0 : 0 < S.length) : Calls Try.prog 36 #[.pointer (some ⟨g, 0, none⟩)] w fun e w' => e = .returned (.bool true) ∧ w = w' := by
  obtain ⟨ad, cap, h1, h2⟩ := h
  have c2 := h1.cell 2
  simp only [List.getElem?_toArray, List.getElem?_cons_zero, List.getElem?_cons_succ] at c2
  have hd : decide ((0 : Int) < (S.length : Int)) = true := by simp; omega
  clear h1 h2
  go_enter Try.func36, Try.ntmps36
  go_wp2_with fail
  go_ret
  exact ⟨by simp, rfl⟩
theorem rpoints_any {g : Nat} {ka kb : Int} {S : List Pt} {w : World} (h : RingAt w g ka kb S) (h0 : 0 < S.length) : Calls Try.prog 16 #[.pointer (some ⟨g, 0, none⟩)] w fun e w' => e = .returned (.int .i64 S.length) ∧ w = w' := by
  have G := Lib.hid (rgiven_any h h0)
  obtain ⟨ad, cap, h1, h2⟩ := h
  have c2 := h1.cell 2
  simp only [List.getElem?_toArray, List.getElem?_cons_zero, List.getElem?_cons_succ] at c2
  clear h1 h2
  go_enter Try.func16, Try.ntmps16
  go_wp2_with fail
  refine G.out.mono ?_
  rintro e w1 ⟨rfl, rfl⟩
  go_wp2_with fail
  go_ret
  exact ⟨rfl, rfl⟩
theorem rpoints_nil (w : World) : Calls Try.prog 16 #[.pointer none] w fun e w' => e = .returned (.int .i64 0) ∧ w = w' := by
  go_enter Try.func16, Try.ntmps16
  go_wp2_with fail
  refine (rgiven_nil _).mono ?_
  rintro e w1 ⟨rfl, rfl⟩
  go_wp2_with fail
  go_ret
  exact ⟨rfl, rfl⟩
theorem rat1_any (x : Pt) (n : Int) (w : World) : Calls Try.prog 38 #[.agg #[.int .i64 x.1, .int .u64 x.2], .int .u64 n] w fun e w' => e = .returned (.int .i64 (if x.2 < n then -1 else 1)) ∧ Below w.heap.size w w' := by
  obtain ⟨xi, xa⟩ := x
  dsimp only
  have hb := below_alloc (Below.refl w.heap.size w) (.cells #[.int .i64 xi, .int .u64 xa] 84)
  by_cases h : xa < n
  · have hd : decide (xa < n) = true := by simpa using h
    rw [if_pos h]
    go_enter Try.func38, Try.ntmps38
    go_wp2_with fail
    go_ret
    exact ⟨rfl, hb⟩
  · have hd : decide (xa < n) = false := by simpa using h
    rw [if_neg h]
    go_enter Try.func38, Try.ntmps38
    go_wp2_with fail
    go_ret
    exact ⟨rfl, hb⟩
abbrev at1fn : Value := .func (Fn.func 38) #[] #[]
set_option maxRecDepth 100000 in
set_option maxHeartbeats 4000000 in
theorem search_any {S : List Pt} {A : Option Addr} (c : Nat) (n : Int) (w : World) (hr : Reads w w.heap.size 2 A S.length (S.flatMap pcell)) (ok : PtsOk S) :
    Calls Try.prog 37 #[.slice A S.length c, .int .u64 n, at1fn] w fun e w' => ∃ (i : Nat) (o : Bool), e = .returned (.tuple #[.int .i64 i, .bool o]) ∧ i ≤ S.length ∧ (∀ k (hk : k < S.length), k < i → S[k].2 < n) ∧ (∀ k (hk : k < S.length), i ≤ k → n ≤ S[k].2) ∧ Below w.heap.size w w' := by
  have hl := ok.le
  have C := fun (x : Pt) W => rat1_any x n W
  replace C := Lib.hid C
  replace ok := Lib.hid ok
  go_enter Try.func37, Try.ntmps37
  go_wp2_with fail
  go_loopw [9, 10] (fun x y wr => ∃ i j : Nat, x = .int .i64 (i : Nat) ∧ y = .int .i64 (j : Nat) ∧ i ≤ j ∧ j ≤ S.length ∧ (∀ k (hk : k < S.length), k < i → S[k].2 < n) ∧ (∀ k (hk : k < S.length), j ≤ k → n ≤ S[k].2) ∧ Below w.heap.size w wr) (fun x y _ => (intOf y).toNat - (intOf x).toNat)
  case atStart => exact ⟨0, S.length, rfl, rfl, by omega, by omega, by omega, by omega, Below.refl _ _⟩
  case round =>
    obtain ⟨i, j, rfl, rfl, hij, hj, h1, h2, hb⟩ := hrel
    replace h1 := Lib.hid h1
    replace h2 := Lib.hid h2
    by_cases hlt : i < j
    · have hlti : (i : Int) < (j : Int) := by omega
      obtain ⟨m, hq, him, hmj⟩ : ∃ m : Nat, ((i : Int) + (j : Int)) / 2 = (m : Int) ∧ i ≤ m ∧ m < j := ⟨(i + j) / 2, by omega, by omega, by omega⟩
      replace hq := Lib.hid hq
      have hms : m < S.length := Nat.lt_of_lt_of_le hmj hj
      have hml : (m : Int) < (S.length : Int) := by omega
      obtain ⟨ad, rfl, hbl, c0, c1⟩ := pt_at (hr.below hb) hms
      have ex : S.getD m (0, 0) = S[m]'hms := by rw [List.getD_eq_getElem?_getD, List.getElem?_eq_getElem hms]; rfl
      obtain ⟨xi, xa, hx⟩ : ∃ xi xa, S.getD m (0, 0) = (xi, xa) := ⟨_, _, rfl⟩
      rw [hx] at c0 c1 ex
      dsimp only at c0 c1
      have hC := C.out (xi, xa)
      dsimp only at hC
      replace hC := Lib.hid hC
      replace ex := Lib.hid ex
      replace hx := Lib.hid hx
      clear hr
      go_upto_region 5 with fail
      rw [hq.out]
      by_cases hxn : xa < n
      · rw [if_pos hxn] at hC
        go_wp2_with fail
        refine (hC.out _).mono ?_
        rintro e w2 ⟨rfl, hb2⟩
        have hb3 := below_chain hb2 hb
        clear hC c0 c1 hb hb2
        go_wp2_with fail
        go_roundw
        case rel =>
          refine ⟨m + 1, j, by go_num, rfl, by omega, hj, fun k hk hkm => ?_, h2.out, hb3⟩
          have := sorted_at ok.out.st hk hms (by omega)
          rw [← ex.out] at this
          dsimp only at this
          omega
        case measure => simp [intOf]; omega
      · rw [if_neg hxn] at hC
        go_wp2_with fail
        refine (hC.out _).mono ?_
        rintro e w2 ⟨rfl, hb2⟩
        have hb3 := below_chain hb2 hb
        clear hC c0 c1 hb hb2
        go_wp2_with fail
        go_roundw
        case rel =>
          refine ⟨i, m, rfl, rfl, him, by omega, h1.out, fun k hk hkm => ?_, hb3⟩
          have := sorted_at ok.out.st hms hk hkm
          rw [← ex.out] at this
          dsimp only at this
          omega
        case measure => simp [intOf]; omega
    · obtain rfl : i = j := by omega
      have hlti : ¬ (i : Int) < (i : Int) := by omega
      by_cases hil : i < S.length
      · have hd : decide ((i : Int) < (S.length : Int)) = true := by simpa using hil
        have hml : (i : Int) < (S.length : Int) := by omega
        obtain ⟨ad, rfl, hbl, c0, c1⟩ := pt_at (hr.below hb) hil
        obtain ⟨xi, xa, hx⟩ : ∃ xi xa, S.getD i (0, 0) = (xi, xa) := ⟨_, _, rfl⟩
        rw [hx] at c0 c1
        dsimp only at c0 c1
        have hC := C.out (xi, xa)
        dsimp only at hC
        obtain ⟨r, hrr⟩ : ∃ r : Int, (if xa < n then (-1 : Int) else 1) = r := ⟨_, rfl⟩
        rw [hrr] at hC
        replace hC := Lib.hid hC
        replace hx := Lib.hid hx
        replace hrr := Lib.hid hrr
        clear hr
        go_wp2_with fail
        refine (hC.out _).mono ?_
        rintro e w2 ⟨rfl, hb2⟩
        have hb3 := below_chain hb2 hb
        clear hC c0 c1 hb hb2
        go_wp2_with fail
        go_ret2
        exact ⟨i, _, rfl, hj, h1.out, h2.out, hb3⟩
      · have hd : decide ((i : Int) < (S.length : Int)) = false := by simp; omega
        clear hr
        go_wp2_with fail
        go_ret2
        exact ⟨i, .inl rfl, hj, h1.out, h2.out, hb⟩
set_option maxRecDepth 100000 in
set_option maxHeartbeats 4000000 in
theorem rat_any {g : Nat} {ka kb : Int} {S : List Pt} {w : World} (n : Int) (h : RingAt w g ka kb S) (ok : PtsOk S) : Calls Try.prog 10 #[.pointer (some ⟨g, 0, none⟩), .int .u64 n] w fun e w' => e = .returned (.tuple #[.int .i64 (ownP S n).1, .bool true]) ∧ Below w.heap.size w w' := by
  have G := Lib.hid (rgiven_any h ok.ne)
  have hl := ok.le
  have h0 := ok.ne
  obtain ⟨ad, cap, h1, h2⟩ := h
  have K := search_any cap n w h2 ok
  have OW := fun (i : Nat) (hi : i ≤ S.length) a b => own_sorted ok.st n hi h0 a b
  have c2 := h1.cell 2
  simp only [List.getElem?_toArray, List.getElem?_cons_zero, List.getElem?_cons_succ] at c2
  obtain ⟨r, hrr⟩ : ∃ r, ownP S n = r := ⟨_, rfl⟩
  rw [hrr] at OW ⊢
  replace K := Lib.hid K
  replace OW := Lib.hid OW
  clear ok hrr
  go_enter Try.func10, Try.ntmps10
  go_wp2_with fail
  refine G.out.mono ?_
  rintro e w1 ⟨rfl, rfl⟩
  go_wp2_with fail
  refine K.out.mono ?_
  rintro e w2 ⟨i, o, rfl, hi, k1, k2, hb⟩
  have hO := OW.out i hi k1 k2
  have h3 := h1.call hb
  obtain ⟨m, hm, hml⟩ : ∃ m : Nat, i % S.length = m ∧ m < S.length := ⟨_, rfl, Nat.mod_lt _ h0⟩
  have hmi : (i : Int) % (S.length : Int) = (m : Int) := by rw [← hm]; rfl
  have hmt : (i : Int).tmod (S.length : Int) = (m : Int) := by rw [← hm]; rfl
  have hml2 : (m : Int) < (S.length : Int) := by omega
  have hz : ((S.length : Int) == 0) = false := by rw [beq_eq_false_iff_ne]; omega
  obtain ⟨ad', e', hbl, c0, c1⟩ := pt_at ((h2.below hb).more hb.size) hml
  obtain rfl : ad = ad' := by simpa using e'
  have ex : (S.getD m (0, 0)) = r := by
    rw [← hO, List.getD_eq_getElem?_getD, List.getElem?_eq_getElem hml]
    simp only [hm, Option.getD_some]
  rw [ex] at c0
  have c2 := h3.cell 2
  simp only [List.getElem?_toArray, List.getElem?_cons_zero, List.getElem?_cons_succ] at c2
  clear h1 h2 h3 OW K G hO ex c1 e' k1 k2
  replace hm := Lib.hid hm
  go_wp2_with fail
  go_quiet (fail)
  go_wp2_with fail
  go_ret2
  exact ⟨rfl, below_drewN hb _⟩
theorem rat_nil (n : Int) (w : World) : Calls Try.prog 10 #[.pointer none, .int .u64 n] w fun e w' => e = .returned (.tuple #[.int .i64 0, .bool false]) ∧ w = w' := by
  go_enter Try.func10, Try.ntmps10
  go_wp2_with fail
  refine (rgiven_nil _).mono ?_
  rintro e w1 ⟨rfl, rfl⟩
  go_wp2_with fail
  go_ret2
  exact ⟨rfl, rfl⟩
theorem rat_plain {g : Nat} {ka kb : Int} (n : Int) {w : World} (h : Blk w g 77 #[.int .u64 ka, .int .u64 kb, .slice none 0 0]) : Calls Try.prog 10 #[.pointer (some ⟨g, 0, none⟩), .int .u64 n] w fun e w' => e = .returned (.tuple #[.int .i64 0, .bool false]) ∧ w = w' := by
  have G := Lib.hid (rgiven_plain h)
  go_enter Try.func10, Try.ntmps10
  go_wp2_with fail
  refine G.out.mono ?_
  rintro e w1 ⟨rfl, rfl⟩
  go_wp2_with fail
  go_ret2
  exact ⟨rfl, rfl⟩
end Go.Proofs.Ytnmmjchhinfbpaa
