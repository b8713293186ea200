/- addr and its reference: Right, Put. tuple and its reference: Right. tuple: kind, Put; the reference: Right, Put. -/
import Derived.Test.YtmkknjhalcocmaaGreatJ8
import Derived.Deep.RegionHeld3
namespace Go.Proofs.YtmkknjhalcocmaaGreat
open Go Go.RowKit Go.Deep

def adrOk (v6 : Bool) (hi lo : Nat) : Bool := v6 || (decide (hi = 0) && decide (lo < 4294967296))
def adrPut (v6 : Bool) (hi lo : Nat) : List UInt8 := if adrOk v6 hi lo then (if v6 then octB hi 8 ++ octB lo 8 else octB lo 4) else []
theorem octB_len (m k : Nat) : (octB m k).length = k := by simp [octB]
theorem adrPut_len (v6 : Bool) (hi lo : Nat) : (adrPut v6 hi lo).length ≤ 16 := by
  unfold adrPut; split
  · split <;> simp [octB_len]
  · simp

theorem addr_right (v6 : Bool) (hi lo : Nat) (w : World) : Calls Tryz.prog 61 #[.agg #[.bool v6, .int .u64 hi, .int .u64 lo]] w fun e w' => e = .returned (.bool (adrOk v6 hi lo)) ∧ Below w.heap.size w w' := by
  unfold adrOk
  cases v6
  · by_cases h0 : hi = 0
    · subst h0
      by_cases h1 : lo < 4294967296
      · have h2 : decide ((lo : Int) < 4294967296) = true := by simp; omega
        go_enter Tryz.func61, Tryz.ntmps61
        go_wp2_with fail
        go_ret
        exact ⟨by simp [h1], (by repeat (first | exact Below.refl _ _ | assumption | refine below_alloc ?_ _ | refine below_chain (by assumption) ?_ | refine below_call2 (by assumption) ?_ (by first | omega | (simp; done) | (simp; omega) | (simp [World.setCell]; omega)) | refine below_drewN ?_ _ | refine Below.drew ?_ | refine Below.alloc ?_ (by first | omega | (simp; done) | (simp; omega) | (simp [World.setCell]; omega)) _ | refine Below.setCell ?_ (by first | omega | (simp; done) | (simp; omega) | (simp [World.setCell]; omega)) _))⟩
      · have h2 : decide ((lo : Int) < 4294967296) = false := by simp; omega
        go_enter Tryz.func61, Tryz.ntmps61
        go_wp2_with fail
        go_ret
        exact ⟨by simp [h1], (by repeat (first | exact Below.refl _ _ | assumption | refine below_alloc ?_ _ | refine below_chain (by assumption) ?_ | refine below_call2 (by assumption) ?_ (by first | omega | (simp; done) | (simp; omega) | (simp [World.setCell]; omega)) | refine below_drewN ?_ _ | refine Below.drew ?_ | refine Below.alloc ?_ (by first | omega | (simp; done) | (simp; omega) | (simp [World.setCell]; omega)) _ | refine Below.setCell ?_ (by first | omega | (simp; done) | (simp; omega) | (simp [World.setCell]; omega)) _))⟩
    · have h2 : ((hi : Int) == 0) = false := by simp; omega
      go_enter Tryz.func61, Tryz.ntmps61
      go_wp2_with fail
      go_ret
      exact ⟨by simp [h0], (by repeat (first | exact Below.refl _ _ | assumption | refine below_alloc ?_ _ | refine below_chain (by assumption) ?_ | refine below_call2 (by assumption) ?_ (by first | omega | (simp; done) | (simp; omega) | (simp [World.setCell]; omega)) | refine below_drewN ?_ _ | refine Below.drew ?_ | refine Below.alloc ?_ (by first | omega | (simp; done) | (simp; omega) | (simp [World.setCell]; omega)) _ | refine Below.setCell ?_ (by first | omega | (simp; done) | (simp; omega) | (simp [World.setCell]; omega)) _))⟩
  · go_enter Tryz.func61, Tryz.ntmps61
    go_wp2_with fail
    go_ret
    exact ⟨by simp, (by repeat (first | exact Below.refl _ _ | assumption | refine below_alloc ?_ _ | refine below_chain (by assumption) ?_ | refine below_call2 (by assumption) ?_ (by first | omega | (simp; done) | (simp; omega) | (simp [World.setCell]; omega)) | refine below_drewN ?_ _ | refine Below.drew ?_ | refine Below.alloc ?_ (by first | omega | (simp; done) | (simp; omega) | (simp [World.setCell]; omega)) _ | refine Below.setCell ?_ (by first | omega | (simp; done) | (simp; omega) | (simp [World.setCell]; omega)) _))⟩
theorem refaddr_right (v6 : Bool) (hi lo : Nat) (w : World) : Calls Tryz.prog 76 #[.agg #[.bool v6, .int .u64 hi, .int .u64 lo]] w fun e w' => e = .returned (.bool (adrOk v6 hi lo)) ∧ Below w.heap.size w w' := by
  unfold adrOk
  cases v6
  · by_cases h0 : hi = 0
    · subst h0
      by_cases h1 : lo < 4294967296
      · have h2 : decide ((lo : Int) < 4294967296) = true := by simp; omega
        go_enter Tryz.func76, Tryz.ntmps76
        go_wp2_with fail
        go_ret
        exact ⟨by simp [h1], (by repeat (first | exact Below.refl _ _ | assumption | refine below_alloc ?_ _ | refine below_chain (by assumption) ?_ | refine below_call2 (by assumption) ?_ (by first | omega | (simp; done) | (simp; omega) | (simp [World.setCell]; omega)) | refine below_drewN ?_ _ | refine Below.drew ?_ | refine Below.alloc ?_ (by first | omega | (simp; done) | (simp; omega) | (simp [World.setCell]; omega)) _ | refine Below.setCell ?_ (by first | omega | (simp; done) | (simp; omega) | (simp [World.setCell]; omega)) _))⟩
      · have h2 : decide ((lo : Int) < 4294967296) = false := by simp; omega
        go_enter Tryz.func76, Tryz.ntmps76
        go_wp2_with fail
        go_ret
        exact ⟨by simp [h1], (by repeat (first | exact Below.refl _ _ | assumption | refine below_alloc ?_ _ | refine below_chain (by assumption) ?_ | refine below_call2 (by assumption) ?_ (by first | omega | (simp; done) | (simp; omega) | (simp [World.setCell]; omega)) | refine below_drewN ?_ _ | refine Below.drew ?_ | refine Below.alloc ?_ (by first | omega | (simp; done) | (simp; omega) | (simp [World.setCell]; omega)) _ | refine Below.setCell ?_ (by first | omega | (simp; done) | (simp; omega) | (simp [World.setCell]; omega)) _))⟩
    · have h2 : ((hi : Int) == 0) = false := by simp; omega
      go_enter Tryz.func76, Tryz.ntmps76
      go_wp2_with fail
      go_ret
      exact ⟨by simp [h0], (by repeat (first | exact Below.refl _ _ | assumption | refine below_alloc ?_ _ | refine below_chain (by assumption) ?_ | refine below_call2 (by assumption) ?_ (by first | omega | (simp; done) | (simp; omega) | (simp [World.setCell]; omega)) | refine below_drewN ?_ _ | refine Below.drew ?_ | refine Below.alloc ?_ (by first | omega | (simp; done) | (simp; omega) | (simp [World.setCell]; omega)) _ | refine Below.setCell ?_ (by first | omega | (simp; done) | (simp; omega) | (simp [World.setCell]; omega)) _))⟩
  · go_enter Tryz.func76, Tryz.ntmps76
    go_wp2_with fail
    go_ret
    exact ⟨by simp, (by repeat (first | exact Below.refl _ _ | assumption | refine below_alloc ?_ _ | refine below_chain (by assumption) ?_ | refine below_call2 (by assumption) ?_ (by first | omega | (simp; done) | (simp; omega) | (simp [World.setCell]; omega)) | refine below_drewN ?_ _ | refine Below.drew ?_ | refine Below.alloc ?_ (by first | omega | (simp; done) | (simp; omega) | (simp [World.setCell]; omega)) _ | refine Below.setCell ?_ (by first | omega | (simp; done) | (simp; omega) | (simp [World.setCell]; omega)) _))⟩

end Go.Proofs.YtmkknjhalcocmaaGreat

namespace Go.Proofs.YtmkknjhalcocmaaGreat
open Go Go.RowKit Go.Deep

def tinB (n m : Int) : Bool := decide (0 ≤ n) && decide (n ≤ m)
structure Tup where
  p : Int
  v : Bool
  hi : Nat
  lo : Nat
  v' : Bool
  hi' : Nat
  lo' : Nat
  sp : Int
  dp : Int
def tupOk (t : Tup) : Bool := tinB t.p 255 && (tinB t.sp 65535 && tinB t.dp 65535) && adrOk t.v t.hi t.lo && adrOk t.v' t.hi' t.lo' && t.v == t.v'
abbrev Tup.val (t : Tup) : Value := .agg #[.int .i64 t.p, .bool t.v, .int .u64 t.hi, .int .u64 t.lo, .bool t.v', .int .u64 t.hi', .int .u64 t.lo', .int .i64 t.sp, .int .i64 t.dp]
abbrev Tup.cells (t : Tup) : List Value := [.int .i64 t.p, .bool t.v, .int .u64 t.hi, .int .u64 t.lo, .bool t.v', .int .u64 t.hi', .int .u64 t.lo', .int .i64 t.sp, .int .i64 t.dp]

theorem tinB_t {n m : Int} (h : tinB n m = true) : 0 ≤ n ∧ n ≤ m := by simpa [tinB] using h
theorem tinB_f {n m : Int} (h : tinB n m = false) : n < 0 ∨ (0 ≤ n ∧ m < n) := by simp [tinB] at h; omega

theorem within_any (m : Int) (A : Option Addr) (c : Nat) (xs : List Int) (w : World) (hr : Reads w w.heap.size 1 A xs.length (xs.map (.int .i64))) (hn : xs.length ≤ 1000000) :
    Calls Tryz.prog 60 #[.int .i64 m, .slice A xs.length c] w fun e w' => e = .returned (.bool (xs.all (tinB · m))) ∧ w = w' := by
  go_enter Tryz.func60, Tryz.ntmps60
  go_wp2_with fail
  go_loop [9] (fun i => ∃ k : Nat, k ≤ xs.length ∧ i = .int .i64 (k : Nat) ∧ (xs.take k).all (tinB · m) = true) (fun i => xs.length - (intOf i).toNat)
  case atStart => exact ⟨0, by omega, rfl, by simp⟩
  case round =>
    obtain ⟨k, hk, rfl, hall⟩ := hrel
    replace hall := Lib.hid hall
    by_cases hlt : k < xs.length
    · have hlti : (k : Int) < (xs.length : Int) := by omega
      obtain ⟨ad, u, rfl, hb, hu, hc⟩ := hr.at_ hlt
      rw [List.getElem?_map, List.getElem?_eq_getElem hlt] at hu
      simp at hu
      obtain ⟨x, hx⟩ : ∃ x, xs[k] = x := ⟨_, rfl⟩
      rw [hx] at hu
      subst hu
      replace hx := Lib.hid hx
      by_cases hb1 : tinB x m = true
      · obtain ⟨b1, b2⟩ := tinB_t hb1
        replace hb1 := Lib.hid hb1
        have d1 : decide (x < 0) = false := by simp; omega
        have d2 : decide (m < x) = false := by simp; omega
        go_wp2_with fail
        go_round
        case rel => exact ⟨k + 1, by omega, by go_num, by rw [List.take_succ_eq_append_getElem hlt, List.all_append, hall.out, hx.out]; simp [hb1.out]⟩
        case measure => simp [intOf]; omega
      · have hb2 : tinB x m = false := by simpa using hb1
        have hfin : xs.all (tinB · m) = false := by
          rw [List.all_eq_false]; exact ⟨x, by rw [← hx.out]; exact List.getElem_mem hlt, by simpa using hb1⟩
        replace hfin := Lib.hid hfin
        clear hb1
        rcases tinB_f hb2 with b | ⟨b1, b2⟩
        · have d1 : decide (x < 0) = true := by simp; omega
          clear hb2
          go_wp2_with fail
          go_ret
          exact ⟨by rw [hfin.out]; rfl, rfl⟩
        · have d1 : decide (x < 0) = false := by simp; omega
          have d2 : decide (m < x) = true := by simp; omega
          clear hb2
          go_wp2_with fail
          go_ret
          exact ⟨by rw [hfin.out]; rfl, rfl⟩
    · obtain rfl : k = xs.length := by omega
      rw [List.take_length] at hall
      go_wp2_with fail
      go_ret
      exact ⟨by rw [hall.out]; rfl, rfl⟩

theorem in_any (n m : Int) (w : World) : Calls Tryz.prog 75 #[.int .i64 n, .int .i64 m] w fun e w' => e = .returned (.bool (tinB n m)) ∧ w = w' := by
  by_cases h : 0 ≤ n
  · by_cases h2 : n ≤ m
    · have d1 : decide (0 ≤ n) = true := by simp; omega
      have d2 : decide (n ≤ m) = true := by simp; omega
      go_enter Tryz.func75, Tryz.ntmps75
      go_wp2_with fail
      go_ret
      exact ⟨by simp [tinB, h, h2], rfl⟩
    · have d1 : decide (0 ≤ n) = true := by simp; omega
      have d2 : decide (n ≤ m) = false := by simp; omega
      go_enter Tryz.func75, Tryz.ntmps75
      go_wp2_with fail
      go_ret
      exact ⟨by simp [tinB, h2], rfl⟩
  · have d1 : decide (0 ≤ n) = false := by simp; omega
    go_enter Tryz.func75, Tryz.ntmps75
    go_wp2_with fail
    go_ret
    exact ⟨by simp [tinB]; omega, rfl⟩

theorem within1 (m n : Int) (g : Nat) (W : World) (hg : g = W.heap.size) : Calls Tryz.prog 60 #[.int .i64 m, .slice (some ⟨g, 0, none⟩) 1 1] (W.alloc (.cells #[.int .i64 n] 3)) fun e w' => e = .returned (.bool (tinB n m)) ∧ W.alloc (.cells #[.int .i64 n] 3) = w' := by
  subst hg
  refine (within_any m _ 1 [n] _ (reads_ints W _ 3 [n] (by simp)) (by simp)).mono ?_
  rintro e w' ⟨rfl, rfl⟩
  exact ⟨by simp, rfl⟩
theorem within2 (m n k : Int) (g : Nat) (W : World) (hg : g = W.heap.size) : Calls Tryz.prog 60 #[.int .i64 m, .slice (some ⟨g, 0, none⟩) 2 2] (W.alloc (.cells #[.int .i64 n, .int .i64 k] 3)) fun e w' => e = .returned (.bool (tinB n m && tinB k m)) ∧ W.alloc (.cells #[.int .i64 n, .int .i64 k] 3) = w' := by
  subst hg
  refine (within_any m _ 2 [n, k] _ (reads_ints W _ 3 [n, k] (by simp)) (by simp)).mono ?_
  rintro e w' ⟨rfl, rfl⟩
  exact ⟨by simp, rfl⟩

set_option maxHeartbeats 1000000 in
theorem tuple_right (t : Tup) (w : World) : Calls Tryz.prog 36 #[t.val] w fun e w' => e = .returned (.bool (tupOk t)) ∧ Below w.heap.size w w' := by
  obtain ⟨p, v, hi, lo, v', hi', lo', sp, dp⟩ := t
  have W1 := within1 255 p
  have W2 := within2 65535 sp dp
  have A1 := addr_right v hi lo
  have A2 := addr_right v' hi' lo'
  unfold tupOk Tup.val
  dsimp only
  obtain ⟨o1, h1⟩ : ∃ o, tinB p 255 = o := ⟨_, rfl⟩
  obtain ⟨o2, h2⟩ : ∃ o, (tinB sp 65535 && tinB dp 65535) = o := ⟨_, rfl⟩
  obtain ⟨o3, h3⟩ : ∃ o, adrOk v hi lo = o := ⟨_, rfl⟩
  obtain ⟨o4, h4⟩ : ∃ o, adrOk v' hi' lo' = o := ⟨_, rfl⟩
  obtain ⟨o5, h5⟩ : ∃ o, (v == v') = o := ⟨_, rfl⟩
  rw [h1] at W1 ⊢
  rw [h2] at W2 ⊢
  rw [h3] at A1 ⊢
  rw [h4] at A2 ⊢
  rw [h5]
  clear h1 h2 h3 h4
  replace W1 := Lib.hid W1
  replace W2 := Lib.hid W2
  replace A1 := Lib.hid A1
  replace A2 := Lib.hid A2
  have hB0 := Blk.new w 37 #[.int .i64 p, .bool v, .int .u64 hi, .int .u64 lo, .bool v', .int .u64 hi', .int .u64 lo', .int .i64 sp, .int .i64 dp]
  have hb0 : Below w.heap.size w (w.alloc (.cells #[.int .i64 p, .bool v, .int .u64 hi, .int .u64 lo, .bool v', .int .u64 hi', .int .u64 lo', .int .i64 sp, .int .i64 dp] 37)) := (by repeat (first | exact Below.refl _ _ | assumption | refine below_alloc ?_ _ | refine below_chain (by assumption) ?_ | refine below_call2 (by assumption) ?_ (by first | omega | (simp; done) | (simp; omega) | (simp [World.setCell]; omega)) | refine below_drewN ?_ _ | refine Below.drew ?_ | refine Below.alloc ?_ (by first | omega | (simp; done) | (simp; omega) | (simp [World.setCell]; omega)) _ | refine Below.setCell ?_ (by first | omega | (simp; done) | (simp; omega) | (simp [World.setCell]; omega)) _))
  cases o1
  · go_enter Tryz.func36, Tryz.ntmps36
    go_wp2_with (first
      | (go_at_call 60; with_reducible refine (W1.out _ _ (by simp)).mono ?_; rintro e w1 ⟨rfl, rfl⟩)
      | (go_at_call 60; with_reducible refine (W2.out _ _ (by simp)).mono ?_; rintro e w1 ⟨rfl, rfl⟩)
      | (go_at_call 61; with_reducible refine (A1.out _).mono ?_; rintro e w1 ⟨rfl, hb1⟩; obtain ⟨hc1, hf1⟩ := bcell hb1)
      | (go_at_call 61; with_reducible refine (A2.out _).mono ?_; rintro e w1 ⟨rfl, hb2⟩; obtain ⟨hc2, hf2⟩ := bcell hb2))
    go_ret
    exact ⟨rfl, (by repeat (first | exact Below.refl _ _ | assumption | refine below_alloc ?_ _ | refine below_chain (by assumption) ?_ | refine below_call2 (by assumption) ?_ (by first | omega | (simp; done) | (simp; omega) | (simp [World.setCell]; omega)) | refine below_drewN ?_ _ | refine Below.drew ?_ | refine Below.alloc ?_ (by first | omega | (simp; done) | (simp; omega) | (simp [World.setCell]; omega)) _ | refine Below.setCell ?_ (by first | omega | (simp; done) | (simp; omega) | (simp [World.setCell]; omega)) _))⟩
  cases o2
  · go_enter Tryz.func36, Tryz.ntmps36
    go_wp2_with (first
      | (go_at_call 60; with_reducible refine (W1.out _ _ (by simp)).mono ?_; rintro e w1 ⟨rfl, rfl⟩)
      | (go_at_call 60; with_reducible refine (W2.out _ _ (by simp)).mono ?_; rintro e w1 ⟨rfl, rfl⟩)
      | (go_at_call 61; with_reducible refine (A1.out _).mono ?_; rintro e w1 ⟨rfl, hb1⟩; obtain ⟨hc1, hf1⟩ := bcell hb1)
      | (go_at_call 61; with_reducible refine (A2.out _).mono ?_; rintro e w1 ⟨rfl, hb2⟩; obtain ⟨hc2, hf2⟩ := bcell hb2))
    go_ret
    exact ⟨rfl, (by repeat (first | exact Below.refl _ _ | assumption | refine below_alloc ?_ _ | refine below_chain (by assumption) ?_ | refine below_call2 (by assumption) ?_ (by first | omega | (simp; done) | (simp; omega) | (simp [World.setCell]; omega)) | refine below_drewN ?_ _ | refine Below.drew ?_ | refine Below.alloc ?_ (by first | omega | (simp; done) | (simp; omega) | (simp [World.setCell]; omega)) _ | refine Below.setCell ?_ (by first | omega | (simp; done) | (simp; omega) | (simp [World.setCell]; omega)) _))⟩
  cases o3
  · go_enter Tryz.func36, Tryz.ntmps36
    go_wp2_with (first
      | (go_at_call 60; with_reducible refine (W1.out _ _ (by simp)).mono ?_; rintro e w1 ⟨rfl, rfl⟩)
      | (go_at_call 60; with_reducible refine (W2.out _ _ (by simp)).mono ?_; rintro e w1 ⟨rfl, rfl⟩)
      | (go_at_call 61; with_reducible refine (A1.out _).mono ?_; rintro e w1 ⟨rfl, hb1⟩; obtain ⟨hc1, hf1⟩ := bcell hb1)
      | (go_at_call 61; with_reducible refine (A2.out _).mono ?_; rintro e w1 ⟨rfl, hb2⟩; obtain ⟨hc2, hf2⟩ := bcell hb2))
    go_ret
    exact ⟨rfl, (by repeat (first | exact Below.refl _ _ | assumption | refine below_alloc ?_ _ | refine below_chain (by assumption) ?_ | refine below_call2 (by assumption) ?_ (by first | omega | (simp; done) | (simp; omega) | (simp [World.setCell]; omega)) | refine below_drewN ?_ _ | refine Below.drew ?_ | refine Below.alloc ?_ (by first | omega | (simp; done) | (simp; omega) | (simp [World.setCell]; omega)) _ | refine Below.setCell ?_ (by first | omega | (simp; done) | (simp; omega) | (simp [World.setCell]; omega)) _))⟩
  cases o4
  · go_enter Tryz.func36, Tryz.ntmps36
    go_wp2_with (first
      | (go_at_call 60; with_reducible refine (W1.out _ _ (by simp)).mono ?_; rintro e w1 ⟨rfl, rfl⟩)
      | (go_at_call 60; with_reducible refine (W2.out _ _ (by simp)).mono ?_; rintro e w1 ⟨rfl, rfl⟩)
      | (go_at_call 61; with_reducible refine (A1.out _).mono ?_; rintro e w1 ⟨rfl, hb1⟩; obtain ⟨hc1, hf1⟩ := bcell hb1)
      | (go_at_call 61; with_reducible refine (A2.out _).mono ?_; rintro e w1 ⟨rfl, hb2⟩; obtain ⟨hc2, hf2⟩ := bcell hb2))
    go_ret
    exact ⟨rfl, (by repeat (first | exact Below.refl _ _ | assumption | refine below_alloc ?_ _ | refine below_chain (by assumption) ?_ | refine below_call2 (by assumption) ?_ (by first | omega | (simp; done) | (simp; omega) | (simp [World.setCell]; omega)) | refine below_drewN ?_ _ | refine Below.drew ?_ | refine Below.alloc ?_ (by first | omega | (simp; done) | (simp; omega) | (simp [World.setCell]; omega)) _ | refine Below.setCell ?_ (by first | omega | (simp; done) | (simp; omega) | (simp [World.setCell]; omega)) _))⟩
  · go_enter Tryz.func36, Tryz.ntmps36
    go_wp2_with (first
      | (go_at_call 60; with_reducible refine (W1.out _ _ (by simp)).mono ?_; rintro e w1 ⟨rfl, rfl⟩)
      | (go_at_call 60; with_reducible refine (W2.out _ _ (by simp)).mono ?_; rintro e w1 ⟨rfl, rfl⟩)
      | (go_at_call 61; with_reducible refine (A1.out _).mono ?_; rintro e w1 ⟨rfl, hb1⟩; obtain ⟨hc1, hf1⟩ := bcell hb1)
      | (go_at_call 61; with_reducible refine (A2.out _).mono ?_; rintro e w1 ⟨rfl, hb2⟩; have B1 := (hB0.alloc (.cells #[.int .i64 p] 3)).alloc (.cells #[.int .i64 sp, .int .i64 dp] 3); have B2 := (B1.below hb1 B1.lt); have B3 := B2.below hb2 B2.lt; have k1 := B3.cell 1; have k4 := B3.cell 4; clear hc1 hf1 B1 B2 B3; simp at k1 k4))
    go_ret
    exact ⟨rfl, (by repeat (first | exact Below.refl _ _ | assumption | refine below_alloc ?_ _ | refine below_chain (by assumption) ?_ | refine below_call2 (by assumption) ?_ (by first | omega | (simp; done) | (simp; omega) | (simp [World.setCell]; omega)) | refine below_drewN ?_ _ | refine Below.drew ?_ | refine Below.alloc ?_ (by first | omega | (simp; done) | (simp; omega) | (simp [World.setCell]; omega)) _ | refine Below.setCell ?_ (by first | omega | (simp; done) | (simp; omega) | (simp [World.setCell]; omega)) _))⟩
end Go.Proofs.YtmkknjhalcocmaaGreat

namespace Go.Proofs.YtmkknjhalcocmaaGreat
open Go Go.RowKit Go.Deep

set_option maxHeartbeats 1000000 in
theorem reftuple_right (t : Tup) (w : World) : Calls Tryz.prog 47 #[t.val] w fun e w' => e = .returned (.bool (tupOk t)) ∧ Below w.heap.size w w' := by
  obtain ⟨p, v, hi, lo, v', hi', lo', sp, dp⟩ := t
  have W1 := in_any p 255
  have W2 := in_any sp 65535
  have W3 := in_any dp 65535
  have A1 := refaddr_right v hi lo
  have A2 := refaddr_right v' hi' lo'
  unfold tupOk Tup.val
  dsimp only
  obtain ⟨o1, h1⟩ : ∃ o, tinB p 255 = o := ⟨_, rfl⟩
  obtain ⟨o2, h2⟩ : ∃ o, tinB sp 65535 = o := ⟨_, rfl⟩
  obtain ⟨o6, h6⟩ : ∃ o, tinB dp 65535 = o := ⟨_, rfl⟩
  obtain ⟨o3, h3⟩ : ∃ o, adrOk v hi lo = o := ⟨_, rfl⟩
  obtain ⟨o4, h4⟩ : ∃ o, adrOk v' hi' lo' = o := ⟨_, rfl⟩
  obtain ⟨o5, h5⟩ : ∃ o, (v == v') = o := ⟨_, rfl⟩
  rw [h1] at W1 ⊢
  rw [h2] at W2 ⊢
  rw [h6] at W3 ⊢
  rw [h3] at A1 ⊢
  rw [h4] at A2 ⊢
  rw [h5]
  clear h1 h2 h3 h4 h6
  replace W1 := Lib.hid W1
  replace W2 := Lib.hid W2
  replace W3 := Lib.hid W3
  replace A1 := Lib.hid A1
  replace A2 := Lib.hid A2
  have tok1 : True := trivial
  have hB0 := Blk.new w 37 #[.int .i64 p, .bool v, .int .u64 hi, .int .u64 lo, .bool v', .int .u64 hi', .int .u64 lo', .int .i64 sp, .int .i64 dp]
  have hb0 : Below w.heap.size w (w.alloc (.cells #[.int .i64 p, .bool v, .int .u64 hi, .int .u64 lo, .bool v', .int .u64 hi', .int .u64 lo', .int .i64 sp, .int .i64 dp] 37)) := (by repeat (first | exact Below.refl _ _ | assumption | refine below_alloc ?_ _ | refine below_chain (by assumption) ?_ | refine below_call2 (by assumption) ?_ (by first | omega | (simp; done) | (simp; omega) | (simp [World.setCell]; omega)) | refine below_drewN ?_ _ | refine Below.drew ?_ | refine Below.alloc ?_ (by first | omega | (simp; done) | (simp; omega) | (simp [World.setCell]; omega)) _ | refine Below.setCell ?_ (by first | omega | (simp; done) | (simp; omega) | (simp [World.setCell]; omega)) _))
  cases o1
  · go_enter Tryz.func47, Tryz.ntmps47
    go_wp2_with (first
      | (go_at_call 75; with_reducible refine (W1.out _).mono ?_; rintro e w1 ⟨rfl, rfl⟩)
      | (go_at_call 75; with_reducible refine (W2.out _).mono ?_; rintro e w1 ⟨rfl, rfl⟩)
      | (go_at_call 75; with_reducible refine (W3.out _).mono ?_; rintro e w1 ⟨rfl, rfl⟩)
      | (go_at_call 76; have tok0 := tok1; with_reducible refine (A1.out _).mono ?_; rintro e w1 ⟨rfl, hb1⟩; clear tok1 tok0; have B1 := hB0.below hb1 hB0.lt; have k4 := B1.cell 4; have k5 := B1.cell 5; have k6 := B1.cell 6; simp at k4 k5 k6)
      | (go_at_call 76; with_reducible refine (A2.out _).mono ?_; rintro e w2 ⟨rfl, hb2⟩; clear k4 k5 k6; have B2 := B1.below hb2 B1.lt; have k1 := B2.cell 1; have k4 := B2.cell 4; have k7 := B2.cell 7; have k8 := B2.cell 8; simp at k1 k4 k7 k8))
    go_ret
    refine ⟨?_, (by repeat (first | exact Below.refl _ _ | assumption | refine below_alloc ?_ _ | refine below_chain (by assumption) ?_ | refine below_call2 (by assumption) ?_ (by first | omega | (simp; done) | (simp; omega) | (simp [World.setCell]; omega)) | refine below_drewN ?_ _ | refine Below.drew ?_ | refine Below.alloc ?_ (by first | omega | (simp; done) | (simp; omega) | (simp [World.setCell]; omega)) _ | refine Below.setCell ?_ (by first | omega | (simp; done) | (simp; omega) | (simp [World.setCell]; omega)) _))⟩
    show Ending.returned (.bool _) = _
    simp
  cases o3
  · go_enter Tryz.func47, Tryz.ntmps47
    go_wp2_with (first
      | (go_at_call 75; with_reducible refine (W1.out _).mono ?_; rintro e w1 ⟨rfl, rfl⟩)
      | (go_at_call 75; with_reducible refine (W2.out _).mono ?_; rintro e w1 ⟨rfl, rfl⟩)
      | (go_at_call 75; with_reducible refine (W3.out _).mono ?_; rintro e w1 ⟨rfl, rfl⟩)
      | (go_at_call 76; have tok0 := tok1; with_reducible refine (A1.out _).mono ?_; rintro e w1 ⟨rfl, hb1⟩; clear tok1 tok0; have B1 := hB0.below hb1 hB0.lt; have k4 := B1.cell 4; have k5 := B1.cell 5; have k6 := B1.cell 6; simp at k4 k5 k6)
      | (go_at_call 76; with_reducible refine (A2.out _).mono ?_; rintro e w2 ⟨rfl, hb2⟩; clear k4 k5 k6; have B2 := B1.below hb2 B1.lt; have k1 := B2.cell 1; have k4 := B2.cell 4; have k7 := B2.cell 7; have k8 := B2.cell 8; simp at k1 k4 k7 k8))
    go_ret
    refine ⟨?_, (by repeat (first | exact Below.refl _ _ | assumption | refine below_alloc ?_ _ | refine below_chain (by assumption) ?_ | refine below_call2 (by assumption) ?_ (by first | omega | (simp; done) | (simp; omega) | (simp [World.setCell]; omega)) | refine below_drewN ?_ _ | refine Below.drew ?_ | refine Below.alloc ?_ (by first | omega | (simp; done) | (simp; omega) | (simp [World.setCell]; omega)) _ | refine Below.setCell ?_ (by first | omega | (simp; done) | (simp; omega) | (simp [World.setCell]; omega)) _))⟩
    show Ending.returned (.bool _) = _
    simp
  cases o4
  · go_enter Tryz.func47, Tryz.ntmps47
    go_wp2_with (first
      | (go_at_call 75; with_reducible refine (W1.out _).mono ?_; rintro e w1 ⟨rfl, rfl⟩)
      | (go_at_call 75; with_reducible refine (W2.out _).mono ?_; rintro e w1 ⟨rfl, rfl⟩)
      | (go_at_call 75; with_reducible refine (W3.out _).mono ?_; rintro e w1 ⟨rfl, rfl⟩)
      | (go_at_call 76; have tok0 := tok1; with_reducible refine (A1.out _).mono ?_; rintro e w1 ⟨rfl, hb1⟩; clear tok1 tok0; have B1 := hB0.below hb1 hB0.lt; have k4 := B1.cell 4; have k5 := B1.cell 5; have k6 := B1.cell 6; simp at k4 k5 k6)
      | (go_at_call 76; with_reducible refine (A2.out _).mono ?_; rintro e w2 ⟨rfl, hb2⟩; clear k4 k5 k6; have B2 := B1.below hb2 B1.lt; have k1 := B2.cell 1; have k4 := B2.cell 4; have k7 := B2.cell 7; have k8 := B2.cell 8; simp at k1 k4 k7 k8))
    go_ret
    refine ⟨?_, (by repeat (first | exact Below.refl _ _ | assumption | refine below_alloc ?_ _ | refine below_chain (by assumption) ?_ | refine below_call2 (by assumption) ?_ (by first | omega | (simp; done) | (simp; omega) | (simp [World.setCell]; omega)) | refine below_drewN ?_ _ | refine Below.drew ?_ | refine Below.alloc ?_ (by first | omega | (simp; done) | (simp; omega) | (simp [World.setCell]; omega)) _ | refine Below.setCell ?_ (by first | omega | (simp; done) | (simp; omega) | (simp [World.setCell]; omega)) _))⟩
    show Ending.returned (.bool _) = _
    simp
  cases o5
  · go_enter Tryz.func47, Tryz.ntmps47
    go_wp2_with (first
      | (go_at_call 75; with_reducible refine (W1.out _).mono ?_; rintro e w1 ⟨rfl, rfl⟩)
      | (go_at_call 75; with_reducible refine (W2.out _).mono ?_; rintro e w1 ⟨rfl, rfl⟩)
      | (go_at_call 75; with_reducible refine (W3.out _).mono ?_; rintro e w1 ⟨rfl, rfl⟩)
      | (go_at_call 76; have tok0 := tok1; with_reducible refine (A1.out _).mono ?_; rintro e w1 ⟨rfl, hb1⟩; clear tok1 tok0; have B1 := hB0.below hb1 hB0.lt; have k4 := B1.cell 4; have k5 := B1.cell 5; have k6 := B1.cell 6; simp at k4 k5 k6)
      | (go_at_call 76; with_reducible refine (A2.out _).mono ?_; rintro e w2 ⟨rfl, hb2⟩; clear k4 k5 k6; have B2 := B1.below hb2 B1.lt; have k1 := B2.cell 1; have k4 := B2.cell 4; have k7 := B2.cell 7; have k8 := B2.cell 8; simp at k1 k4 k7 k8))
    go_ret
    refine ⟨?_, (by repeat (first | exact Below.refl _ _ | assumption | refine below_alloc ?_ _ | refine below_chain (by assumption) ?_ | refine below_call2 (by assumption) ?_ (by first | omega | (simp; done) | (simp; omega) | (simp [World.setCell]; omega)) | refine below_drewN ?_ _ | refine Below.drew ?_ | refine Below.alloc ?_ (by first | omega | (simp; done) | (simp; omega) | (simp [World.setCell]; omega)) _ | refine Below.setCell ?_ (by first | omega | (simp; done) | (simp; omega) | (simp [World.setCell]; omega)) _))⟩
    show Ending.returned (.bool _) = _
    simp
  cases o2
  · go_enter Tryz.func47, Tryz.ntmps47
    go_wp2_with (first
      | (go_at_call 75; with_reducible refine (W1.out _).mono ?_; rintro e w1 ⟨rfl, rfl⟩)
      | (go_at_call 75; with_reducible refine (W2.out _).mono ?_; rintro e w1 ⟨rfl, rfl⟩)
      | (go_at_call 75; with_reducible refine (W3.out _).mono ?_; rintro e w1 ⟨rfl, rfl⟩)
      | (go_at_call 76; have tok0 := tok1; with_reducible refine (A1.out _).mono ?_; rintro e w1 ⟨rfl, hb1⟩; clear tok1 tok0; have B1 := hB0.below hb1 hB0.lt; have k4 := B1.cell 4; have k5 := B1.cell 5; have k6 := B1.cell 6; simp at k4 k5 k6)
      | (go_at_call 76; with_reducible refine (A2.out _).mono ?_; rintro e w2 ⟨rfl, hb2⟩; clear k4 k5 k6; have B2 := B1.below hb2 B1.lt; have k1 := B2.cell 1; have k4 := B2.cell 4; have k7 := B2.cell 7; have k8 := B2.cell 8; simp at k1 k4 k7 k8))
    go_ret
    refine ⟨?_, (by repeat (first | exact Below.refl _ _ | assumption | refine below_alloc ?_ _ | refine below_chain (by assumption) ?_ | refine below_call2 (by assumption) ?_ (by first | omega | (simp; done) | (simp; omega) | (simp [World.setCell]; omega)) | refine below_drewN ?_ _ | refine Below.drew ?_ | refine Below.alloc ?_ (by first | omega | (simp; done) | (simp; omega) | (simp [World.setCell]; omega)) _ | refine Below.setCell ?_ (by first | omega | (simp; done) | (simp; omega) | (simp [World.setCell]; omega)) _))⟩
    show Ending.returned (.bool _) = _
    simp
  cases o6
  · go_enter Tryz.func47, Tryz.ntmps47
    go_wp2_with (first
      | (go_at_call 75; with_reducible refine (W1.out _).mono ?_; rintro e w1 ⟨rfl, rfl⟩)
      | (go_at_call 75; with_reducible refine (W2.out _).mono ?_; rintro e w1 ⟨rfl, rfl⟩)
      | (go_at_call 75; with_reducible refine (W3.out _).mono ?_; rintro e w1 ⟨rfl, rfl⟩)
      | (go_at_call 76; have tok0 := tok1; with_reducible refine (A1.out _).mono ?_; rintro e w1 ⟨rfl, hb1⟩; clear tok1 tok0; have B1 := hB0.below hb1 hB0.lt; have k4 := B1.cell 4; have k5 := B1.cell 5; have k6 := B1.cell 6; simp at k4 k5 k6)
      | (go_at_call 76; with_reducible refine (A2.out _).mono ?_; rintro e w2 ⟨rfl, hb2⟩; clear k4 k5 k6; have B2 := B1.below hb2 B1.lt; have k1 := B2.cell 1; have k4 := B2.cell 4; have k7 := B2.cell 7; have k8 := B2.cell 8; simp at k1 k4 k7 k8))
    go_ret
    refine ⟨?_, (by repeat (first | exact Below.refl _ _ | assumption | refine below_alloc ?_ _ | refine below_chain (by assumption) ?_ | refine below_call2 (by assumption) ?_ (by first | omega | (simp; done) | (simp; omega) | (simp [World.setCell]; omega)) | refine below_drewN ?_ _ | refine Below.drew ?_ | refine Below.alloc ?_ (by first | omega | (simp; done) | (simp; omega) | (simp [World.setCell]; omega)) _ | refine Below.setCell ?_ (by first | omega | (simp; done) | (simp; omega) | (simp [World.setCell]; omega)) _))⟩
    show Ending.returned (.bool _) = _
    simp
  · go_enter Tryz.func47, Tryz.ntmps47
    go_wp2_with (first
      | (go_at_call 75; with_reducible refine (W1.out _).mono ?_; rintro e w1 ⟨rfl, rfl⟩)
      | (go_at_call 75; with_reducible refine (W2.out _).mono ?_; rintro e w1 ⟨rfl, rfl⟩)
      | (go_at_call 75; with_reducible refine (W3.out _).mono ?_; rintro e w1 ⟨rfl, rfl⟩)
      | (go_at_call 76; have tok0 := tok1; with_reducible refine (A1.out _).mono ?_; rintro e w1 ⟨rfl, hb1⟩; clear tok1 tok0; have B1 := hB0.below hb1 hB0.lt; have k4 := B1.cell 4; have k5 := B1.cell 5; have k6 := B1.cell 6; simp at k4 k5 k6)
      | (go_at_call 76; with_reducible refine (A2.out _).mono ?_; rintro e w2 ⟨rfl, hb2⟩; clear k4 k5 k6; have B2 := B1.below hb2 B1.lt; have k1 := B2.cell 1; have k4 := B2.cell 4; have k7 := B2.cell 7; have k8 := B2.cell 8; simp at k1 k4 k7 k8))
    go_ret
    refine ⟨?_, (by repeat (first | exact Below.refl _ _ | assumption | refine below_alloc ?_ _ | refine below_chain (by assumption) ?_ | refine below_call2 (by assumption) ?_ (by first | omega | (simp; done) | (simp; omega) | (simp [World.setCell]; omega)) | refine below_drewN ?_ _ | refine Below.drew ?_ | refine Below.alloc ?_ (by first | omega | (simp; done) | (simp; omega) | (simp [World.setCell]; omega)) _ | refine Below.setCell ?_ (by first | omega | (simp; done) | (simp; omega) | (simp [World.setCell]; omega)) _))⟩
    show Ending.returned (.bool _) = _
    simp
def kindN (b : Bool) : Nat := if b then 6 else 4
def tupPut (t : Tup) : List UInt8 := if tupOk t then octB (kindN t.v * 256 + t.p.toNat) 2 ++ adrPut t.v t.hi t.lo ++ adrPut t.v' t.hi' t.lo' ++ octB (t.sp.toNat * 65536 + t.dp.toNat) 4 else []
theorem tupPut_len (t : Tup) : (tupPut t).length ≤ 38 := by
  unfold tupPut; split
  · have := adrPut_len t.v t.hi t.lo
    have := adrPut_len t.v' t.hi' t.lo'
    simp [octB_len]; omega
  · simp

theorem tnum1 (kd p : Nat) (hk : kd ≤ 6) (hp : p ≤ 255) : IntKind.u64.wrap (bits BinOp.or IntKind.i64 (IntKind.i64.wrap ((kd : Int) * 256)) (p : Int)) = ((kd * 256 + p : Nat) : Int) := by
  rw [i64_id _ (by omega), show ((kd : Int) * 256) = ((kd * 2 ^ 8 : Nat) : Int) by omega, or_i64 _ _ (by omega) (by omega), or_shift _ _ _ (by omega), u64_id _ (by omega)]
theorem tnum2 (sp dp : Nat) (h1 : sp ≤ 65535) (h2 : dp ≤ 65535) : bits BinOp.or IntKind.u64 (IntKind.u64.wrap (IntKind.u64.wrap (sp : Int) * 65536)) (IntKind.u64.wrap (dp : Int)) = ((sp * 65536 + dp : Nat) : Int) := by
  rw [u64_id sp (by omega), u64_id dp (by omega), show ((sp : Int) * 65536) = ((sp * 2 ^ 16 : Nat) : Int) by omega, u64_id _ (by omega), or_u64 _ _ (by omega) (by omega), or_shift _ _ _ (by omega)]

theorem u8_eq {x y : Nat} (h : x % 256 = y % 256) : UInt8.ofNat x = UInt8.ofNat y := UInt8.toNat_inj.1 (by simpa using h)
theorem octB_11 (a b : Nat) (h : b < 256) : octB (a * 256 + b) 2 = octB a 1 ++ octB b 1 := by
  simp only [octB, octAt, List.range, List.range.loop, List.map_cons, List.map_nil, List.singleton_append]
  rw [u8_eq (x := (a * 256 + b) / 2 ^ (8 * (2 - 1 - 0))) (y := a / 2 ^ (8 * (1 - 1 - 0))) (by first | (simp; done) | (simp; omega)), u8_eq (x := (a * 256 + b) / 2 ^ (8 * (2 - 1 - 1))) (y := b / 2 ^ (8 * (1 - 1 - 0))) (by first | (simp; done) | (simp; omega))]
theorem octB_22 (a b : Nat) (h : b < 65536) : octB (a * 65536 + b) 4 = octB a 2 ++ octB b 2 := by
  simp only [octB, octAt, List.range, List.range.loop, List.map_cons, List.map_nil, List.cons_append, List.nil_append]
  rw [u8_eq (x := (a * 65536 + b) / 2 ^ (8 * (4 - 1 - 0))) (y := a / 2 ^ (8 * (2 - 1 - 0))) (by first | (simp; done) | (simp; omega)), u8_eq (x := (a * 65536 + b) / 2 ^ (8 * (4 - 1 - 1))) (y := a / 2 ^ (8 * (2 - 1 - 1))) (by first | (simp; done) | (simp; omega)), u8_eq (x := (a * 65536 + b) / 2 ^ (8 * (4 - 1 - 2))) (y := b / 2 ^ (8 * (2 - 1 - 0))) (by first | (simp; done) | (simp; omega)), u8_eq (x := (a * 65536 + b) / 2 ^ (8 * (4 - 1 - 3))) (y := b / 2 ^ (8 * (2 - 1 - 1))) (by first | (simp; done) | (simp; omega))]
end Go.Proofs.YtmkknjhalcocmaaGreat
