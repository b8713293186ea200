/- part and its reference: may, Of. -/
import Derived.Test.YtdkcjfcjckpjcaaTupleB
import Derived.Test.YtdkcjfcjckpjcaaSipN
import Derived.Test.YtdkcjfcjckpjcaaNumD
namespace Go.Proofs.Ytdkcjfcjckpjcaa
open Go Go.RowKit Go.Deep

theorem sip_rng (a b : Int) (x : ByteArray) : ∃ h : Nat, sipHash a b x = (h : Int) ∧ h < 18446744073709551616 := by
  have key : ∀ u v : Int, ∃ h : Nat, xorU u v = (h : Int) ∧ h < 18446744073709551616 := by
    intro u v
    have hw : ∀ n : Int, ∃ h : Nat, IntKind.u64.wrap n = (h : Int) ∧ h < 18446744073709551616 := fun n => ⟨(n % 18446744073709551616).toNat, by rw [wrap_u64]; omega, by omega⟩
    exact hw _
  exact key _ _

def mayB (n : Int) : Bool := decide (1 ≤ n) && decide (n ≤ 16)
def partI (a b : Int) (t : Tup) (n : Int) : Int := if mayB n then scaleI (sipHash b a ⟨(tupPut t).toArray⟩) n else 0
theorem may_any (n : Int) (w : World) : Calls Try.prog 121 #[.int .i64 n] w fun e w' => e = .returned (.bool (mayB n)) ∧ w = w' := by
  by_cases h : 1 ≤ n
  · by_cases h2 : n ≤ 16
    · have d1 : decide (1 ≤ n) = true := by simp; omega
      have d2 : decide (n ≤ 16) = true := by simp; omega
      go_enter Try.func121, Try.ntmps121
      go_wp2_with fail
      go_ret
      exact ⟨by simp [mayB, h, h2], rfl⟩
    · have d1 : decide (1 ≤ n) = true := by simp; omega
      have d2 : decide (n ≤ 16) = false := by simp; omega
      go_enter Try.func121, Try.ntmps121
      go_wp2_with fail
      go_ret
      exact ⟨by simp [mayB, h2], rfl⟩
  · have d1 : decide (1 ≤ n) = false := by simp; omega
    go_enter Try.func121, Try.ntmps121
    go_wp2_with fail
    go_ret
    exact ⟨by simp [mayB]; omega, rfl⟩

set_option maxRecDepth 100000 in
set_option maxHeartbeats 2000000 in
theorem part_of (a b : Int) (t : Tup) (n : Int) (w : World) : Calls Try.prog 93 #[.agg #[.int .u64 a, .int .u64 b], t.val, .int .i64 n] w fun e w' => e = .returned (.int .i64 (partI a b t n)) ∧ Below w.heap.size w w' := by
  have M := may_any n
  unfold partI
  obtain ⟨o, ho⟩ : ∃ o, mayB n = o := ⟨_, rfl⟩
  rw [ho] at M ⊢
  replace M := Lib.hid M
  obtain ⟨p, v, hi, lo, v', hi', lo', sp, dp⟩ := t
  cases o
  · unfold Tup.val
    dsimp only
    go_enter Try.func93, Try.ntmps93
    go_wp2_with (go_at_call 121; refine (M.out _).mono ?_; rintro e w1 ⟨rfl, rfl⟩)
    go_ret
    exact ⟨rfl, (by repeat (first | exact Below.refl _ _ | assumption | refine below_alloc ?_ _ | refine below_chain (by assumption) ?_ | refine below_call2 (by assumption) ?_ (by first | omega | (simp; done) | (simp; omega) | (simp [World.setCell]; omega)) | refine below_drewN ?_ _ | refine Below.drew ?_ | refine Below.alloc ?_ (by first | omega | (simp; done) | (simp; omega) | (simp [World.setCell]; omega)) _ | refine Below.setCell ?_ (by first | omega | (simp; done) | (simp; omega) | (simp [World.setCell]; omega)) _))⟩
  · obtain ⟨x, hx⟩ : ∃ x, (⟨(tupPut ⟨p, v, hi, lo, v', hi', lo', sp, dp⟩).toArray⟩ : ByteArray) = x := ⟨_, rfl⟩
    obtain ⟨h, hh, hlt⟩ := sip_rng b a x
    have T := tuple_put ⟨p, v, hi, lo, v', hi', lo', sp, dp⟩
    have hxl : x.size ≤ 1000000 := by rw [← hx]; have := tupPut_len ⟨p, v, hi, lo, v', hi', lo', sp, dp⟩; show (tupPut ⟨p, v, hi, lo, v', hi', lo', sp, dp⟩).toArray.size ≤ _; simp; omega
    have H := fun W => hash_any b a x W hxl
    have SC := fun W => scale_any h n W hlt
    rw [hx] at T ⊢
    rw [hh] at H ⊢
    clear hx hh hxl
    replace T := Lib.hid T
    replace H := Lib.hid H
    replace SC := Lib.hid SC
    replace hlt := Lib.hid hlt
    unfold Tup.val at T ⊢
    dsimp only at T ⊢
    go_enter Try.func93, Try.ntmps93
    go_wp2_with (go_at_call 121; refine (M.out _).mono ?_; rintro e w1 ⟨rfl, rfl⟩)
    have B1 : Blk ((w.alloc (.cells #[.int .u64 b, .int .u64 a] 119)).alloc (.cells #[.int .i64 p, .bool v, .int .u64 hi, .int .u64 lo, .bool v', .int .u64 hi', .int .u64 lo', .int .i64 sp, .int .i64 dp] 121)) w.heap.size 119 #[.int .u64 b, .int .u64 a] := (Blk.new w _ _).alloc _
    have B2 := Blk.new (w.alloc (.cells #[.int .u64 b, .int .u64 a] 119)) 121 #[.int .i64 p, .bool v, .int .u64 hi, .int .u64 lo, .bool v', .int .u64 hi', .int .u64 lo', .int .i64 sp, .int .i64 dp]
    have hbA : Below w.heap.size w ((w.alloc (.cells #[.int .u64 b, .int .u64 a] 119)).alloc (.cells #[.int .i64 p, .bool v, .int .u64 hi, .int .u64 lo, .bool v', .int .u64 hi', .int .u64 lo', .int .i64 sp, .int .i64 dp] 121)) := (by repeat (first | exact Below.refl _ _ | assumption | refine below_alloc ?_ _ | refine below_chain (by assumption) ?_ | refine below_call2 (by assumption) ?_ (by first | omega | (simp; done) | (simp; omega) | (simp [World.setCell]; omega)) | refine below_drewN ?_ _ | refine Below.drew ?_ | refine Below.alloc ?_ (by first | omega | (simp; done) | (simp; omega) | (simp [World.setCell]; omega)) _ | refine Below.setCell ?_ (by first | omega | (simp; done) | (simp; omega) | (simp [World.setCell]; omega)) _))
    simp only [World.size_alloc] at B2
    generalize ((w.alloc (.cells #[.int .u64 b, .int .u64 a] 119)).alloc (.cells #[.int .i64 p, .bool v, .int .u64 hi, .int .u64 lo, .bool v', .int .u64 hi', .int .u64 lo', .int .i64 sp, .int .i64 dp] 121)) = w1 at *
    have d0 := B1.cell 0
    have d1 := B1.cell 1
    have c0 := B2.cell 0
    have c1 := B2.cell 1
    have c2 := B2.cell 2
    have c3 := B2.cell 3
    have c4 := B2.cell 4
    have c5 := B2.cell 5
    have c6 := B2.cell 6
    have c7 := B2.cell 7
    have c8 := B2.cell 8
    simp at d0 d1 c0 c1 c2 c3 c4 c5 c6 c7 c8
    clear B1 B2 ho
    go_region_held3 (fun w' => Below w1.heap.size w1 w' ∧ w'.cell? ⟨w.heap.size, 0, none⟩ = some (.int .u64 b) ∧ w'.cell? ⟨w.heap.size, 1, none⟩ = some (.int .u64 a) ∧ w'.cell? ⟨w.heap.size + 1, 0, none⟩ = some (.int .i64 p) ∧ w'.cell? ⟨w.heap.size + 1, 1, none⟩ = some (.bool v) ∧ w'.cell? ⟨w.heap.size + 1, 2, none⟩ = some (.int .u64 hi) ∧ w'.cell? ⟨w.heap.size + 1, 3, none⟩ = some (.int .u64 lo) ∧ w'.cell? ⟨w.heap.size + 1, 4, none⟩ = some (.bool v') ∧ w'.cell? ⟨w.heap.size + 1, 5, none⟩ = some (.int .u64 hi') ∧ w'.cell? ⟨w.heap.size + 1, 6, none⟩ = some (.int .u64 lo') ∧ w'.cell? ⟨w.heap.size + 1, 7, none⟩ = some (.int .i64 sp) ∧ w'.cell? ⟨w.heap.size + 1, 8, none⟩ = some (.int .i64 dp)) ((first | assumption | ((refine ⟨?_, ?_⟩; (first | assumption | exact (Below.refl _ _).drew | exact Below.refl _ _); go_keep)))) (first
        | (go_at_call 123; with_reducible refine (T.out _).mono ?_; rintro e w2 ⟨rfl, hb2⟩; have hS := hold11 (by assumption) hb2)
        | (go_at_call 122; with_reducible refine (H.out _).mono ?_; rintro e w3 ⟨rfl, hb3⟩; have hS := hold11 (by assumption) hb3)
        | (go_at_call 65; with_reducible refine (SC.out _).mono ?_; rintro e w4 ⟨rfl, hb4⟩; have hS := hold11 (by assumption) hb4))
    all_goals
      go_wp2_with fail
      go_ret
      exact ⟨rfl, below_chain (by exact hS.1) hbA⟩

set_option maxRecDepth 100000 in
set_option maxHeartbeats 2000000 in
theorem refpart_of (a b : Int) (t : Tup) (n : Int) (w : World) (x1 : t.hi < 18446744073709551616) (x2 : t.lo < 18446744073709551616) (x3 : t.hi' < 18446744073709551616) (x4 : t.lo' < 18446744073709551616) : Calls Try.prog 94 #[.agg #[.int .u64 a, .int .u64 b], t.val, .int .i64 n] w fun e w' => e = .returned (.int .i64 (partI a b t n)) ∧ Below w.heap.size w w' := by
  unfold partI
  obtain ⟨o, ho⟩ : ∃ o, mayB n = o := ⟨_, rfl⟩
  rw [ho]
  obtain ⟨p, v, hi, lo, v', hi', lo', sp, dp⟩ := t
  cases o
  · unfold Tup.val
    dsimp only
    by_cases h1 : 1 ≤ n
    · have h2 : ¬ n ≤ 16 := by intro h2; simp [mayB, h1, h2] at ho
      have d1 : decide (n < 1) = false := by simp; omega
      have d2 : decide (16 < n) = true := by simp; omega
      go_enter Try.func94, Try.ntmps94
      go_wp2_with fail
      go_ret
      exact ⟨rfl, (by repeat (first | exact Below.refl _ _ | assumption | refine below_alloc ?_ _ | refine below_chain (by assumption) ?_ | refine below_call2 (by assumption) ?_ (by first | omega | (simp; done) | (simp; omega) | (simp [World.setCell]; omega)) | refine below_drewN ?_ _ | refine Below.drew ?_ | refine Below.alloc ?_ (by first | omega | (simp; done) | (simp; omega) | (simp [World.setCell]; omega)) _ | refine Below.setCell ?_ (by first | omega | (simp; done) | (simp; omega) | (simp [World.setCell]; omega)) _))⟩
    · have d1 : decide (n < 1) = true := by simp; omega
      go_enter Try.func94, Try.ntmps94
      go_wp2_with fail
      go_ret
      exact ⟨rfl, (by repeat (first | exact Below.refl _ _ | assumption | refine below_alloc ?_ _ | refine below_chain (by assumption) ?_ | refine below_call2 (by assumption) ?_ (by first | omega | (simp; done) | (simp; omega) | (simp [World.setCell]; omega)) | refine below_drewN ?_ _ | refine Below.drew ?_ | refine Below.alloc ?_ (by first | omega | (simp; done) | (simp; omega) | (simp [World.setCell]; omega)) _ | refine Below.setCell ?_ (by first | omega | (simp; done) | (simp; omega) | (simp [World.setCell]; omega)) _))⟩
  · obtain ⟨x, hx⟩ : ∃ x, (⟨(tupPut ⟨p, v, hi, lo, v', hi', lo', sp, dp⟩).toArray⟩ : ByteArray) = x := ⟨_, rfl⟩
    obtain ⟨h, hh, hlt⟩ := sip_rng b a x
    have T := fun W => reftuple_put ⟨p, v, hi, lo, v', hi', lo', sp, dp⟩ W x1 x2 x3 x4
    have hxl : x.size ≤ 1000000 := by rw [← hx]; have := tupPut_len ⟨p, v, hi, lo, v', hi', lo', sp, dp⟩; show (tupPut ⟨p, v, hi, lo, v', hi', lo', sp, dp⟩).toArray.size ≤ _; simp; omega
    have H := fun W => refhash_any b a x W hxl
    have SC := fun W => refscale_any h n W hlt
    rw [hx] at T ⊢
    rw [hh] at H ⊢
    clear hx hh hxl x1 x2 x3 x4
    replace T := Lib.hid T
    replace H := Lib.hid H
    replace SC := Lib.hid SC
    replace hlt := Lib.hid hlt
    unfold Tup.val at T ⊢
    dsimp only at T ⊢
    have b1 : 1 ≤ n ∧ n ≤ 16 := by simpa [mayB] using ho
    have d1 : decide (n < 1) = false := by simp; omega
    have d2 : decide (16 < n) = false := by simp; omega
    clear b1
    go_enter Try.func94, Try.ntmps94
    go_wp2_with fail
    clear d1 d2
    have B1 : Blk ((w.alloc (.cells #[.int .u64 a, .int .u64 b] 119)).alloc (.cells #[.int .i64 p, .bool v, .int .u64 hi, .int .u64 lo, .bool v', .int .u64 hi', .int .u64 lo', .int .i64 sp, .int .i64 dp] 121)) w.heap.size 119 #[.int .u64 a, .int .u64 b] := (Blk.new w _ _).alloc _
    have B2 := Blk.new (w.alloc (.cells #[.int .u64 a, .int .u64 b] 119)) 121 #[.int .i64 p, .bool v, .int .u64 hi, .int .u64 lo, .bool v', .int .u64 hi', .int .u64 lo', .int .i64 sp, .int .i64 dp]
    have hbA : Below w.heap.size w ((w.alloc (.cells #[.int .u64 a, .int .u64 b] 119)).alloc (.cells #[.int .i64 p, .bool v, .int .u64 hi, .int .u64 lo, .bool v', .int .u64 hi', .int .u64 lo', .int .i64 sp, .int .i64 dp] 121)) := (by repeat (first | exact Below.refl _ _ | assumption | refine below_alloc ?_ _ | refine below_chain (by assumption) ?_ | refine below_call2 (by assumption) ?_ (by first | omega | (simp; done) | (simp; omega) | (simp [World.setCell]; omega)) | refine below_drewN ?_ _ | refine Below.drew ?_ | refine Below.alloc ?_ (by first | omega | (simp; done) | (simp; omega) | (simp [World.setCell]; omega)) _ | refine Below.setCell ?_ (by first | omega | (simp; done) | (simp; omega) | (simp [World.setCell]; omega)) _))
    simp only [World.size_alloc] at B2
    generalize ((w.alloc (.cells #[.int .u64 a, .int .u64 b] 119)).alloc (.cells #[.int .i64 p, .bool v, .int .u64 hi, .int .u64 lo, .bool v', .int .u64 hi', .int .u64 lo', .int .i64 sp, .int .i64 dp] 121)) = w1 at *
    have d0 := B1.cell 0
    have d1 := B1.cell 1
    have c0 := B2.cell 0
    have c1 := B2.cell 1
    have c2 := B2.cell 2
    have c3 := B2.cell 3
    have c4 := B2.cell 4
    have c5 := B2.cell 5
    have c6 := B2.cell 6
    have c7 := B2.cell 7
    have c8 := B2.cell 8
    simp at d0 d1 c0 c1 c2 c3 c4 c5 c6 c7 c8
    clear B1 B2 ho
    go_region_held3 (fun w' => Below w1.heap.size w1 w' ∧ w'.cell? ⟨w.heap.size, 0, none⟩ = some (.int .u64 a) ∧ w'.cell? ⟨w.heap.size, 1, none⟩ = some (.int .u64 b) ∧ w'.cell? ⟨w.heap.size + 1, 0, none⟩ = some (.int .i64 p) ∧ w'.cell? ⟨w.heap.size + 1, 1, none⟩ = some (.bool v) ∧ w'.cell? ⟨w.heap.size + 1, 2, none⟩ = some (.int .u64 hi) ∧ w'.cell? ⟨w.heap.size + 1, 3, none⟩ = some (.int .u64 lo) ∧ w'.cell? ⟨w.heap.size + 1, 4, none⟩ = some (.bool v') ∧ w'.cell? ⟨w.heap.size + 1, 5, none⟩ = some (.int .u64 hi') ∧ w'.cell? ⟨w.heap.size + 1, 6, none⟩ = some (.int .u64 lo') ∧ w'.cell? ⟨w.heap.size + 1, 7, none⟩ = some (.int .i64 sp) ∧ w'.cell? ⟨w.heap.size + 1, 8, none⟩ = some (.int .i64 dp)) ((first | assumption | ((refine ⟨?_, ?_⟩; (first | assumption | exact (Below.refl _ _).drew | exact Below.refl _ _); go_keep)))) (first
        | (go_at_call 125; with_reducible refine (T.out _).mono ?_; rintro e w2 ⟨rfl, hb2⟩; have hS := hold11 (by assumption) hb2)
        | (go_at_call 124; with_reducible refine (H.out _).mono ?_; rintro e w3 ⟨rfl, hb3⟩; have hS := hold11 (by assumption) hb3)
        | (go_at_call 72; with_reducible refine (SC.out _).mono ?_; rintro e w4 ⟨rfl, rfl⟩))
    all_goals
      go_wp2_with fail
      go_ret
      exact ⟨rfl, below_chain (by exact hS.1) hbA⟩
end Go.Proofs.Ytdkcjfcjckpjcaa
