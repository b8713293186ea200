/- VerdictWhole. -/
import Derived.Test.YtdkcjfcjckpjcaaVerdictE
import Derived.Test.YtdkcjfcjckpjcaaVerdictF
namespace Go.Proofs.Ytdkcjfcjckpjcaa
open Go Go.RowKit Go.Deep

def sumI : List Int → Int
  | [] => 0
  | x :: l => x + sumI l
theorem sumI_append : ∀ a b : List Int, sumI (a ++ b) = sumI a + sumI b
  | [], b => by simp [sumI]
  | x :: a, b => by simp [sumI, sumI_append a b]; omega
theorem sumI_filter (F : Int → Int) (h : ∀ x, 0 ≤ F x) : ∀ L : List Int, sumI ((L.filter fun e => decide (0 < F e)).map F) = sumI (L.map F)
  | [] => rfl
  | x :: L => by
    have := sumI_filter F h L
    have hx := h x
    by_cases hp : 0 < F x
    · rw [List.filter_cons_of_pos (by simpa using hp)]; simp [sumI, this]
    · rw [List.filter_cons_of_neg (by simpa using hp)]; simp [sumI, this]; omega
theorem sumI_bd : ∀ (L : List Int) (B : Int), (∀ x ∈ L, 0 ≤ x ∧ x ≤ B) → 0 ≤ sumI L ∧ sumI L ≤ B * L.length
  | [], B, _ => by simp [sumI]
  | x :: L, B, h => by
    have h1 := sumI_bd L B (fun y hy => h y (by simp [hy]))
    have h2 := h x (by simp)
    simp only [sumI, List.length_cons, Int.natCast_add, Int.mul_add]
    omega
theorem sum_rs (f : Nat → Int) (hf : ∀ i, 0 ≤ f i) : sumI ((rs f).map (RS f)) = f 5 + f 6 + f 7 + f 8 + f 9 + f 10 + f 11 + f 12 + f 13 + f 14 + f 15 + f 16 + f 17 + f 18 + f 19 + f 20 := by
  unfold rs rsTo
  rw [sumI_filter (RS f) (fun x => by unfold RS; split; exact hf _; omega)]
  have e : (List.range 16).map (fun j => ((j : Nat) : Int) + 1) = [1, 2, 3, 4, 5, 6, 7, 8, 9, 10, 11, 12, 13, 14, 15, 16] := by decide
  rw [e]
  simp [sumI, RS]
  omega

def KS (f : Nat → Int) (k : Int) : Int := if 0 ≤ k ∧ k < 4 then f k.toNat else 0
theorem kindK (g : Nat) (f : Nat → Int) (k : Int) (w : World) (h : BoardP w g f) :
    Calls Try.prog 53 #[.pointer (some ⟨g, 0, none⟩), .int .i64 k] w fun e w' => e = .returned (.int .i64 (KS f k)) ∧ w = w' := kind_any g f k w h

set_option maxRecDepth 100000 in
set_option maxHeartbeats 2000000 in
theorem verdictWhole_calls (A : Option Addr) (c : Nat) (l : List Vd) (w : World) (hr : Reads w w.heap.size 6 A l.length (vcells l)) (hs : ∀ v ∈ l, v.s.size ≤ 9223372036854775807) (hl : l.length ≤ 9223372036854775807) :
    Calls Try.prog 8 #[.slice A l.length c] w fun e w' => e = .returned (.bool true) ∧ Below w.heap.size w w' := by
  have hN := board_new w
  go_enter Try.func8, Try.ntmps8
  go_wp2_with fail
  refine (few_any A c l w hr hs hl).mono ?_
  rintro e w' ⟨⟨R, rfl, hR⟩, rfl⟩
  cases R
  · clear hN
    go_wp2_with fail
    refine (awake31 w).mono ?_
    rintro e w1 ⟨rfl, hb1⟩
    go_wp2_with fail
    go_ret
    exact ⟨rfl, hb1⟩
  have hf := hR rfl
  clear hR
  go_wp2_with fail
  go_loopw [4, 5] (fun n i wr => ∃ k, k ≤ l.length ∧ i = .int .i64 (k : Nat) ∧ n = .int .i64 (cntOf (l.take k)) ∧ BoardP wr w.heap.size (boardOf (l.take k)) ∧ Below w.heap.size w wr) (fun _ i _ => l.length - (intOf i).toNat)
  case atStart => exact ⟨0, by omega, rfl, rfl, hN, (by repeat (first | exact Below.refl _ _ | assumption | refine below_call2 (by assumption) ?_ (by first | omega | (simp; done) | (simp; omega) | (simp [World.setCell]; omega)) | refine below_drewN ?_ _ | refine Below.drew ?_ | refine Below.alloc ?_ (by first | omega | (simp; done) | (simp; omega) | (simp [World.setCell]; omega)) _ | refine Below.setCell ?_ (by first | omega | (simp; done) | (simp; omega) | (simp [World.setCell]; omega)) _))⟩
  case round =>
    obtain ⟨k, hk, rfl, rfl, hB, hbw⟩ := hrel
    clear hN
    have hl30 := hf.1
    by_cases hlt : k < l.length
    · have hlti : (k : Int) < (l.length : Int) := by omega
      obtain ⟨ad, v, rfl, had, hv, c0, c1, c2, c3, c4, c5⟩ := VR.at_ (hr.below hbw) hlt
      have hvs := hf.2 v (List.mem_of_getElem? hv)
      have hbd := boardOf_few hf k
      obtain ⟨f, hfe⟩ : ∃ f, f = boardOf (l.take k) := ⟨_, rfl⟩
      rw [← hfe] at hB hbd
      replace hfe := Lib.hid hfe
      have hbw1 := hbw.size
      obtain ⟨n, hne⟩ : ∃ n, cntOf (l.take k) = n := ⟨_, rfl⟩
      have hn := cntOf_bd (l.take k) 0
      have hn2 : (l.take k).length ≤ 30 := by rw [List.length_take]; omega
      change 0 ≤ cntOf (l.take k) ∧ cntOf (l.take k) ≤ _ at hn
      rw [hne] at hn ⊢
      have hn3 : 0 ≤ n ∧ n ≤ 30 := by omega
      obtain ⟨hn4, hn5⟩ := hn3
      have hne' := cntOf_succ hv
      rw [hne] at hne'
      replace hne' := Lib.hid hne'
      replace hne := Lib.hid hne
      clear hr hn hn2
      rcases hRt : vRight v with _ | _
      · go_wp2_with (first
          | (go_at_call 48; refine (of_v v _).mono ?_; rintro e w1 ⟨rfl, hb1⟩)
          | (go_at_call 62; refine (put_any w.heap.size f v _ (by first | exact hB | exact BoardP.below hB hb1 hB.lt) (fun i => by have := hbd i; omega) (by omega)).mono ?_; rintro e w2 ⟨rfl, hB2, hc2⟩; rw [hRt]))
        have hb2 := hb1.size
        go_roundw
        case rel =>
          refine ⟨k + 1, by omega, by go_num, ?_, ?_, ?_⟩
          · rw [hne'.out, stepN, hRt]; simp
          · rw [boardOf_succ hv, ← hfe.out]; exact hB2
          · exact below_chg (hbw.trans (hb1.mono (by omega))) hc2 (fun b h e => by omega) (by omega)
        case measure => simp [intOf]; omega
      · go_wp2_with (first
          | (go_at_call 48; refine (of_v v _).mono ?_; rintro e w1 ⟨rfl, hb1⟩)
          | (go_at_call 62; refine (put_any w.heap.size f v _ (by first | exact hB | exact BoardP.below hB hb1 hB.lt) (fun i => by have := hbd i; omega) (by omega)).mono ?_; rintro e w2 ⟨rfl, hB2, hc2⟩; rw [hRt]))
        have hb2 := hb1.size
        go_roundw
        case rel =>
          refine ⟨k + 1, by omega, by go_num, ?_, ?_, ?_⟩
          · rw [hne'.out, stepN, hRt]; simp
          · rw [boardOf_succ hv, ← hfe.out]; exact hB2
          · exact below_chg (hbw.trans (hb1.mono (by omega))) hc2 (fun b h e => by omega) (by omega)
        case measure => simp [intOf]; omega
    · have hlti : ¬ (k : Int) < (l.length : Int) := by omega
      have hbd := boardOf_few hf l.length
      rw [List.take_length] at hbd
      rw [List.take_of_length_le (by omega)] at hB ⊢
      obtain ⟨hw1, hw2, hw3, hw4⟩ := invW_board l
      have hn := cntOf_bd l 0
      change 0 ≤ cntOf l ∧ cntOf l ≤ _ at hn
      obtain ⟨f, hfe⟩ : ∃ f, f = boardOf l := ⟨_, rfl⟩
      obtain ⟨n, hne⟩ : ∃ n, n = cntOf l := ⟨_, rfl⟩
      rw [← hfe] at hB hbd hw1 hw2 hw3 hw4
      rw [← hne] at hw1 hw2 hn ⊢
      have hsum := sum_rs f (fun i => (hbd i).1)
      have hrl := rsTo_len f 16
      change (rs f).length ≤ 16 at hrl
      obtain ⟨x1, y1⟩ : ∃ x, f 1 = x := ⟨_, rfl⟩
      obtain ⟨x2, y2⟩ : ∃ x, f 2 = x := ⟨_, rfl⟩
      obtain ⟨x3, y3⟩ : ∃ x, f 3 = x := ⟨_, rfl⟩
      obtain ⟨x4, y4⟩ : ∃ x, f 21 = x := ⟨_, rfl⟩
      have b1 := hbd 1
      have b2 := hbd 2
      have b3 := hbd 3
      have b4 := hbd 21
      have z1 : KS f 1 = x1 := y1
      have z2 : KS f 2 = x2 := y2
      have z3 : KS f 3 = x3 := y3
      have t0 : RS f 0 = x1 := by rw [← y1, ← hw3]; rfl
      have hS : x1 + sumI ((rs f).map (RS f)) = n := by rw [hsum, ← hw2, hw3, y1]; omega
      rw [y1, y2, y3] at hw1
      rw [y1, y4] at hw4
      rw [y1] at b1
      rw [y2] at b2
      rw [y3] at b3
      rw [y4] at b4
      obtain ⟨b11, b12⟩ := b1
      obtain ⟨b21, b22⟩ := b2
      obtain ⟨b31, b32⟩ := b3
      obtain ⟨b41, b42⟩ := b4
      obtain ⟨hn1, hn2⟩ := hn
      have hRS : ∀ x, 0 ≤ RS f x ∧ RS f x ≤ 4000 := fun x => by unfold RS; split; exact hbd _; omega
      have hz := hbw.size
      clear hw2 hw3 hsum hne hfe hbd
      clear y1 y2 y3
      replace hRS := Lib.hid hRS
      replace hS := Lib.hid hS
      replace hw1 := Lib.hid hw1
      go_wp2_with (go_at_call 55; refine (reasonS _ f 0 x1 _ hB t0).mono ?_; rintro e w' ⟨rfl, rfl⟩)
      refine (reasons_any _ f wr hB).mono ?_
      rintro e w1 ⟨A1, c1, rfl, hown, hb1⟩
      have hB1 := hB.below hb1 hB.lt
      have hb := below_call hbw hz hb1
      have hrr := Reads.of_own hown
      clear hown hb1 hB hbw hz
      generalize hLd : rs f = L at *
      clear hLd
      go_wp2_with fail
      go_loop [6, 8] (fun s i => ∃ k, k ≤ L.length ∧ i = .int .i64 (k : Nat) ∧ s = .int .i64 (x1 + sumI ((L.take k).map (RS f)))) (fun _ i => L.length - (intOf i).toNat)
      case atStart => exact ⟨0, by omega, rfl, by simp [sumI]⟩
      case round =>
        obtain ⟨k, hk, rfl, rfl⟩ := hrel
        by_cases hlt : k < L.length
        · have hlti : (k : Int) < (L.length : Int) := by omega
          obtain ⟨ad, rfl, had, hc⟩ := hrr.int_at hlt
          obtain ⟨x, hx⟩ : ∃ x, x = L.getD k 0 := ⟨_, rfl⟩
          rw [← hx] at hc
          obtain ⟨y, hy⟩ : ∃ y, RS f x = y := ⟨_, rfl⟩
          obtain ⟨s, hs⟩ : ∃ s, sumI ((L.take k).map (RS f)) = s := ⟨_, rfl⟩
          have hsb := sumI_bd ((L.take k).map (RS f)) 4000 (fun z hz => by obtain ⟨u, _, rfl⟩ := List.mem_map.1 hz; exact hRS.out u)
          have hyb := hRS.out x
          rw [hy] at hyb
          have htl : ((L.take k).map (RS f)).length ≤ 16 := by rw [List.length_map, List.length_take]; omega
          rw [hs] at hsb ⊢
          have hsb1 : 0 ≤ s ∧ s ≤ 64000 := by omega
          obtain ⟨s1, s2⟩ := hsb1
          obtain ⟨yb1, yb2⟩ := hyb
          have hs' : sumI ((L.take (k + 1)).map (RS f)) = s + y := by
            rw [List.take_add_one, List.getElem?_eq_getElem hlt, List.map_append, sumI_append, hs]
            have : L[k] = x := by rw [hx, List.getD_eq_getElem?_getD, List.getElem?_eq_getElem hlt]; rfl
            rw [this]
            simp [sumI, hy]
          replace hs' := Lib.hid hs'
          replace hs := Lib.hid hs
          clear hsb htl hx
          go_wp2_with (go_at_call 55; refine (reasonS _ f x y _ hB1 hy).mono ?_; rintro e w' ⟨rfl, rfl⟩)
          go_round
          case rel => exact ⟨k + 1, by omega, by go_num, by rw [hs'.out]; go_num⟩
          case measure => simp [intOf]; omega
        · have hlti : ¬ (k : Int) < (L.length : Int) := by omega
          have hS' := hS.out
          rw [List.take_of_length_le (by omega), hS']
          have hz2 := hb.size
          have t1 : (x1 + x2 + x3 == n) = true := by simp [hw1.out]
          have t2 : (n == n) = true := by simp
          have t3 : decide (x4 ≤ x1) = true := by simp [hw4]
          go_wp2_with (first
            | (go_at_call 55; refine (reasonS _ f 0 x1 _ hB1 t0).mono ?_; rintro e w' ⟨rfl, rfl⟩)
            | (go_at_call 53; refine (kindK _ f _ _ hB1).mono ?_; rintro e w' ⟨rfl, rfl⟩; first | rw [z1] | rw [z2] | rw [z3])
            | (go_at_call 57; refine (firsts_any _ f _ hB1).mono ?_; rintro e w' ⟨rfl, rfl⟩; rw [y4])
            | (go_at_call 44; refine (awake31 _).mono ?_; rintro e w2 ⟨rfl, hb2⟩))
          go_ret
          exact ⟨rfl, below_call hb hz2 hb2⟩
end Go.Proofs.Ytdkcjfcjckpjcaa
