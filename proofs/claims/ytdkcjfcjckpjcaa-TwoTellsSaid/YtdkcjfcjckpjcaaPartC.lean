/- part and its reference: Instance. -/
import Derived.Test.YtdkcjfcjckpjcaaPartB
namespace Go.Proofs.Ytdkcjfcjckpjcaa
open Go Go.RowKit Go.Deep

theorem find_some {n k : Nat} {f : Nat → Bool} (h : ∀ i, i < k → f i = false) (hk : k < n) (ht : f k = true) : (List.range n).find? f = some k := by
  rw [List.find?_eq_some_iff_getElem]
  refine ⟨ht, k, by simpa using hk, by simp, fun j hj => ?_⟩
  simp [h j hj]
theorem find_none {n : Nat} {f : Nat → Bool} (h : ∀ i, i < n → f i = false) : (List.range n).find? f = none := by
  rw [List.find?_eq_none]
  intro i hi
  simp [h i (List.mem_range.1 hi)]

def aliveF (al : List Bool) (p i : Nat) : Bool := al.getD ((p + i) % al.length) false
def instV (al : List Bool) (p : Nat) : Nat × Bool := match (List.range al.length).find? (aliveF al p) with
  | some i => ((p + i) % al.length, true)
  | none => (0, false)
def instI (a b : Int) (t : Tup) (al : List Bool) : Nat × Bool := if 8 < al.length then (0, false) else instV al (partI a b t al.length).toNat
theorem instV_hit {al : List Bool} {p k : Nat} (h : ∀ i, i < k → aliveF al p i = false) (hk : k < al.length) (ht : aliveF al p k = true) : instV al p = ((p + k) % al.length, true) := by
  unfold instV; rw [find_some h hk ht]
theorem instV_miss {al : List Bool} {p : Nat} (h : ∀ i, i < al.length → aliveF al p i = false) : instV al p = (0, false) := by
  unfold instV; rw [find_none h]
theorem instV_nil (p : Nat) : instV [] p = (0, false) := rfl
theorem partI_rng (a b : Int) (t : Tup) (n : Nat) : ∃ p : Nat, partI a b t n = (p : Int) ∧ (p < n ∨ p = 0) := by
  by_cases h : mayB (n : Int) = true
  · have := partI_lt a b t n h
    exact ⟨(partI a b t n).toNat, by omega, by omega⟩
  · exact ⟨0, by unfold partI; rw [if_neg h]; rfl, .inr rfl⟩
theorem roundI_nat (p i n : Nat) (hn : 0 < n) : roundI ((p : Int) + (i : Int)) (n : Int) = (((p + i) % n : Nat) : Int) := by
  unfold roundI
  rw [if_neg (by omega)]
  simp
theorem tuple_ret {a a' : Int} {b b' : Bool} (h : a = a') (h2 : b = b') : Ending.returned (.tuple #[.int .i64 a, .bool b]) = Ending.returned (.tuple #[.int .i64 a', .bool b']) := by rw [h, h2]
theorem Reads.bool_at {w : World} {B : Nat} {A : Option Addr} {xs : List Bool} {i : Nat} (h : Reads w B 1 A xs.length (xs.map .bool)) (hi : i < xs.length) :
    ∃ ad, A = some ad ∧ ad.block < B ∧ w.cell? (ad.add i) = some (.bool (xs.getD i false)) := by
  obtain ⟨ad, u, e, hb, hu, hc⟩ := h.at_ hi
  rw [List.getElem?_map, List.getElem?_eq_getElem hi] at hu
  simp at hu
  exact ⟨ad, e, hb, by rw [hc, ← hu, List.getD_eq_getElem?_getD, List.getElem?_eq_getElem hi]; rfl⟩

set_option maxRecDepth 100000 in
set_option maxHeartbeats 2000000 in
theorem instance_any (a b : Int) (t : Tup) (al : List Bool) (A : Option Addr) (c : Nat) (w : World) (hr : Reads w w.heap.size 1 A al.length (al.map .bool)) (hl : al.length ≤ 1000000) :
    Calls Try.prog 91 #[.agg #[.int .u64 a, .int .u64 b], t.val, .slice A al.length c] w fun e w' => e = .returned (.tuple #[.int .i64 (instI a b t al).1, .bool (instI a b t al).2]) ∧ Below w.heap.size w w' := by
  by_cases h8 : 8 < al.length
  · have h8i : (8 : Int) < (al.length : Int) := by omega
    obtain ⟨p, v, hi, lo, v', hi', lo', sp, dp⟩ := t
    unfold instI
    rw [if_pos h8]
    clear h8
    unfold Tup.val
    go_enter Try.func91, Try.ntmps91
    go_wp2_with fail
    go_ret2
    exact ⟨rfl, (by repeat (first | exact Below.refl _ _ | assumption | refine below_alloc ?_ _ | refine below_chain (by assumption) ?_ | refine below_call2 (by assumption) ?_ (by first | omega | (simp; done) | (simp; omega) | (simp [World.setCell]; omega)) | refine below_drewN ?_ _ | refine Below.drew ?_ | refine Below.alloc ?_ (by first | omega | (simp; done) | (simp; omega) | (simp [World.setCell]; omega)) _ | refine Below.setCell ?_ (by first | omega | (simp; done) | (simp; omega) | (simp [World.setCell]; omega)) _))⟩
  · have h8i : ¬ (8 : Int) < (al.length : Int) := by omega
    obtain ⟨q, hq, hqn⟩ := partI_rng a b t al.length
    have Q := part_of a b t al.length
    unfold instI
    rw [if_neg h8]
    rw [hq] at Q ⊢
    clear hq
    simp only [Int.toNat_natCast]
    obtain ⟨p, v, hi, lo, v', hi', lo', sp, dp⟩ := t
    unfold Tup.val at Q ⊢
    dsimp only at Q ⊢
    replace Q := Lib.hid Q
    have q8 : q ≤ 8 := by omega
    go_enter Try.func91, Try.ntmps91
    go_wp2_with (go_at_call 93; with_reducible refine (Q.out _).mono ?_; rintro e w1 ⟨rfl, hb1⟩)
    have hbA : Below w.heap.size w w1 := (by repeat (first | exact Below.refl _ _ | assumption | refine below_alloc ?_ _ | refine below_chain (by assumption) ?_ | refine below_call2 (by assumption) ?_ (by first | omega | (simp; done) | (simp; omega) | (simp [World.setCell]; omega)) | refine below_drewN ?_ _ | refine Below.drew ?_ | refine Below.alloc ?_ (by first | omega | (simp; done) | (simp; omega) | (simp [World.setCell]; omega)) _ | refine Below.setCell ?_ (by first | omega | (simp; done) | (simp; omega) | (simp [World.setCell]; omega)) _))
    have hr1 := (hr.below hbA)
    clear hb1
    go_loopw [21] (fun i wr => ∃ k : Nat, k ≤ al.length ∧ i = .int .i64 (k : Nat) ∧ w1 = wr ∧ ∀ i, i < k → aliveF al q i = false) (fun i _ => al.length - (intOf i).toNat)
    case atStart => exact ⟨0, by omega, rfl, rfl, fun i hi => absurd hi (by omega)⟩
    case round =>
      obtain ⟨k, hk, rfl, rfl, hall⟩ := hrel
      replace hall := Lib.hid hall
      by_cases hlt : k < al.length
      · have hlti : (k : Int) < (al.length : Int) := by omega
        have hR := round_any ((q : Int) + (k : Int)) al.length w1 (by omega) (by omega)
        rw [roundI_nat q k al.length (by omega)] at hR
        have hml : (q + k) % al.length < al.length := Nat.mod_lt _ (by omega)
        obtain ⟨m, hm⟩ : ∃ m, (q + k) % al.length = m := ⟨_, rfl⟩
        obtain ⟨x, hx⟩ : ∃ x, al.getD m false = x := ⟨_, rfl⟩
        have hax : aliveF al q k = x := by unfold aliveF; rw [hm, hx]
        rw [hm] at hR hml
        obtain ⟨ad, rfl, hbl, hc⟩ := hr1.bool_at hml
        rw [hx] at hc
        have hmi : (m : Int) < (al.length : Int) := by omega
        replace hm := Lib.hid hm
        replace hx := Lib.hid hx
        replace hR := Lib.hid hR
        cases x
        · replace hax := Lib.hid hax
          go_wp2_with (go_at_call 73; with_reducible refine hR.out.mono ?_; rintro e w2 ⟨rfl, rfl⟩)
          go_roundw
          case rel => exact ⟨k + 1, by omega, by go_num, trivial, fun i hi => by
            rcases Nat.lt_succ_iff_lt_or_eq.1 hi with h | rfl
            · exact hall.out i h
            · exact hax.out⟩
          case measure => simp [intOf]; omega
        · have hfin := instV_hit hall.out hlt hax
          rw [hm.out] at hfin
          replace hfin := Lib.hid hfin
          clear hax
          go_wp2_with (go_at_call 73; with_reducible refine hR.out.mono ?_; rintro e w2 ⟨rfl, rfl⟩)
          go_ret2
          exact ⟨by rw [hfin.out]; rfl, hbA⟩
      · obtain rfl : k = al.length := by omega
        have hfin := instV_miss hall.out
        replace hfin := Lib.hid hfin
        go_wp2_with fail
        go_ret2
        exact ⟨by rw [hfin.out]; rfl, hbA⟩

set_option maxRecDepth 100000 in
set_option maxHeartbeats 2000000 in
theorem refinstance_any (a b : Int) (t : Tup) (al : List Bool) (A : Option Addr) (c : Nat) (w : World) (x1 : t.hi < 18446744073709551616) (x2 : t.lo < 18446744073709551616) (x3 : t.hi' < 18446744073709551616) (x4 : t.lo' < 18446744073709551616) (hr : Reads w w.heap.size 1 A al.length (al.map .bool)) (hl : al.length ≤ 1000000) :
    Calls Try.prog 92 #[.agg #[.int .u64 a, .int .u64 b], t.val, .slice A al.length c] w fun e w' => e = .returned (.tuple #[.int .i64 (instI a b t al).1, .bool (instI a b t al).2]) ∧ Below w.heap.size w w' := by
  by_cases h8 : 8 < al.length
  · have h8i : decide ((8 : Int) < (al.length : Int)) = true := by simp; omega
    have h0i : ((al.length : Int) == 0) = false := by rw [beq_eq_false_iff_ne]; omega
    obtain ⟨p, v, hi, lo, v', hi', lo', sp, dp⟩ := t
    unfold instI
    rw [if_pos h8]
    clear h8
    unfold Tup.val
    go_enter Try.func92, Try.ntmps92
    go_wp2_with fail
    go_ret2
    exact ⟨rfl, (by repeat (first | exact Below.refl _ _ | assumption | refine below_alloc ?_ _ | refine below_chain (by assumption) ?_ | refine below_call2 (by assumption) ?_ (by first | omega | (simp; done) | (simp; omega) | (simp [World.setCell]; omega)) | refine below_drewN ?_ _ | refine Below.drew ?_ | refine Below.alloc ?_ (by first | omega | (simp; done) | (simp; omega) | (simp [World.setCell]; omega)) _ | refine Below.setCell ?_ (by first | omega | (simp; done) | (simp; omega) | (simp [World.setCell]; omega)) _))⟩
  by_cases h0 : al.length = 0
  · have h0i : ((al.length : Int) == 0) = true := by rw [beq_iff_eq]; omega
    obtain ⟨p, v, hi, lo, v', hi', lo', sp, dp⟩ := t
    unfold instI
    rw [if_neg h8, List.eq_nil_of_length_eq_zero h0, instV_nil]
    rw [List.eq_nil_of_length_eq_zero h0] at h0i
    clear h8 h0
    unfold Tup.val
    go_enter Try.func92, Try.ntmps92
    go_wp2_with fail
    go_ret2
    exact ⟨rfl, (by repeat (first | exact Below.refl _ _ | assumption | refine below_alloc ?_ _ | refine below_chain (by assumption) ?_ | refine below_call2 (by assumption) ?_ (by first | omega | (simp; done) | (simp; omega) | (simp [World.setCell]; omega)) | refine below_drewN ?_ _ | refine Below.drew ?_ | refine Below.alloc ?_ (by first | omega | (simp; done) | (simp; omega) | (simp [World.setCell]; omega)) _ | refine Below.setCell ?_ (by first | omega | (simp; done) | (simp; omega) | (simp [World.setCell]; omega)) _))⟩
  · have h8i : decide ((8 : Int) < (al.length : Int)) = false := by simp; omega
    have h0i : ((al.length : Int) == 0) = false := by rw [beq_eq_false_iff_ne]; omega
    obtain ⟨q, hq, hqn⟩ := partI_rng a b t al.length
    have Q := fun W => refpart_of a b t al.length W x1 x2 x3 x4
    unfold instI
    rw [if_neg h8]
    rw [hq] at Q ⊢
    clear hq x1 x2 x3 x4
    simp only [Int.toNat_natCast]
    obtain ⟨p, v, hi, lo, v', hi', lo', sp, dp⟩ := t
    unfold Tup.val at Q ⊢
    dsimp only at Q ⊢
    replace Q := Lib.hid Q
    have q8 : q ≤ 8 := by omega
    go_enter Try.func92, Try.ntmps92
    go_wp2_with (go_at_call 94; with_reducible refine (Q.out _).mono ?_; rintro e w1 ⟨rfl, hb1⟩)
    have hbA : Below w.heap.size w w1 := (by repeat (first | exact Below.refl _ _ | assumption | refine below_alloc ?_ _ | refine below_chain (by assumption) ?_ | refine below_call2 (by assumption) ?_ (by first | omega | (simp; done) | (simp; omega) | (simp [World.setCell]; omega)) | refine below_drewN ?_ _ | refine Below.drew ?_ | refine Below.alloc ?_ (by first | omega | (simp; done) | (simp; omega) | (simp [World.setCell]; omega)) _ | refine Below.setCell ?_ (by first | omega | (simp; done) | (simp; omega) | (simp [World.setCell]; omega)) _))
    have hr1 := (hr.below hbA)
    clear hb1
    go_loopw [9] (fun i wr => ∃ k : Nat, k ≤ al.length ∧ i = .int .i64 ((q + k : Nat) : Int) ∧ w1 = wr ∧ ∀ i, i < k → aliveF al q i = false) (fun i _ => q + al.length - (intOf i).toNat)
    case atStart => exact ⟨0, by omega, rfl, rfl, fun i hi => absurd hi (by omega)⟩
    case round =>
      obtain ⟨k, hk, rfl, rfl, hall⟩ := hrel
      replace hall := Lib.hid hall
      by_cases hlt : k < al.length
      · have hlti : ((q + k : Nat) : Int) < (q : Int) + (al.length : Int) := by omega
        have hml : (q + k) % al.length < al.length := Nat.mod_lt _ (by omega)
        obtain ⟨m, hm⟩ : ∃ m, (q + k) % al.length = m := ⟨_, rfl⟩
        have hT : Int.tmod ((q + k : Nat) : Int) (al.length : Int) = (m : Int) := by rw [Int.tmod_eq_emod_of_nonneg (by omega), ← hm]; simp
        obtain ⟨x, hx⟩ : ∃ x, al.getD m false = x := ⟨_, rfl⟩
        have hax : aliveF al q k = x := by unfold aliveF; rw [hm, hx]
        rw [hm] at hml
        obtain ⟨ad, rfl, hbl, hc⟩ := hr1.bool_at hml
        rw [hx] at hc
        have hmi : (m : Int) < (al.length : Int) := by omega
        replace hm := Lib.hid hm
        replace hx := Lib.hid hx
        obtain ⟨qk, hqk⟩ : ∃ j, q + k = j := ⟨_, rfl⟩
        rw [hqk] at hT hlti ⊢
        have hqb : qk ≤ 2000000 := by omega
        have hE : (qk : Int) % (al.length : Int) = (m : Int) := by rw [← hT, Int.tmod_eq_emod_of_nonneg (by omega)]
        replace hqk := Lib.hid hqk
        cases x
        · replace hax := Lib.hid hax
          go_wp2_with fail
          go_roundw
          case rel => exact ⟨k + 1, by omega, by rw [← Nat.add_assoc, hqk.out]; go_num, trivial, fun i hi => by
            rcases Nat.lt_succ_iff_lt_or_eq.1 hi with h | rfl
            · exact hall.out i h
            · exact hax.out⟩
          case measure => have := hqk.out; simp [intOf]; omega
        · have hfin := instV_hit hall.out hlt hax
          rw [hm.out] at hfin
          replace hfin := Lib.hid hfin
          clear hax
          go_wp2_with fail
          go_ret2
          exact ⟨by rw [hfin.out]; rfl, hbA⟩
      · obtain rfl : k = al.length := by omega
        have hfin := instV_miss hall.out
        replace hfin := Lib.hid hfin
        have hlti : ¬ ((q + al.length : Nat) : Int) < (q : Int) + (al.length : Int) := by omega
        go_wp2_with fail
        go_ret2
        exact ⟨by rw [hfin.out]; rfl, hbA⟩
end Go.Proofs.Ytdkcjfcjckpjcaa
