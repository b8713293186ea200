/- num: the program's functions and the reference's. -/
import Derived.Test.YtdkcjfcjckpjcaaNumA
import Derived.Test.YtdkcjfcjckpjcaaShelf
import Derived.Deep.RegionHeld3
namespace Go.Proofs.Ytdkcjfcjckpjcaa
open Go Go.RowKit Go.Deep

theorem product_any (a b : Nat) (w : World) (ha : a < 18446744073709551616) (hb : b < 18446744073709551616) :
    Calls Try.prog 106 #[.int .u64 a, .int .u64 b] w fun e w' => e = .returned (.agg #[.int .u64 (((a * b : Nat) : Int) / 18446744073709551616), .int .u64 (((a * b : Nat) : Int) % 18446744073709551616)]) ∧ Below w.heap.size w w' := by
  go_enter Try.func106, Try.ntmps106
  go_wp2_with (go_at_call 126; refine (Try.bits_Mul64 _ _ ha hb _).mono ?_; rintro e w' ⟨rfl, rfl⟩)
  refine bodyPost_ret (v := .agg #[.int .u64 (((a * b : Nat) : Int) / 18446744073709551616), .int .u64 (((a * b : Nat) : Int) % 18446744073709551616)]) (by simp [results, Try.results106, go_sem]) rfl ⟨rfl, (by repeat (first | exact Below.refl _ _ | assumption | refine below_alloc ?_ _ | refine below_chain (by assumption) ?_ | refine below_call2 (by assumption) ?_ (by first | omega | (simp; done) | (simp; omega) | (simp [World.setCell]; omega)) | refine below_drewN ?_ _ | refine Below.drew ?_ | refine Below.alloc ?_ (by first | omega | (simp; done) | (simp; omega) | (simp [World.setCell]; omega)) _ | refine Below.setCell ?_ (by first | omega | (simp; done) | (simp; omega) | (simp [World.setCell]; omega)) _))⟩

def cmpI (x y : Int) : Int := if x < y then -1 else if y < x then 1 else 0
theorem compare_any (x y : Int) (w : World) : Calls Try.prog 108 #[.int .u64 x, .int .u64 y] w fun e w' => e = .returned (.int .i64 (cmpI x y)) ∧ w = w' := by
  go_enter Try.func108, Try.ntmps108
  go_wp2
  all_goals go_ret
  all_goals refine ⟨ret_int ?_, rfl⟩
  all_goals (unfold cmpI; repeat' split) <;> omega

def orI (x y : Int) : Int := if x = 0 then y else x
theorem or_any (x y : Int) (g : Nat) (w : World) (h : Blk w g 3 #[.int .i64 x, .int .i64 y]) : Calls Try.prog 107 #[.slice (some ⟨g, 0, none⟩) 2 2] w fun e w' => e = .returned (.int .i64 (orI x y)) ∧ w = w' := by
  have c0 := h.cell 0
  have c1 := h.cell 1
  simp at c0 c1
  go_enter Try.func107, Try.ntmps107
  go_wp2_with fail
  refine wp_loop_rounds 3 ?_
  iterate 3 (all_goals (try (rw [rounds_succ])); all_goals (go_wp2_with fail))
  all_goals go_ret
  all_goals refine ⟨ret_int ?_, rfl⟩
  all_goals simp_all [orI]

theorem cross_halves (p q : Int) (_hp : 0 ≤ p) (_hq : 0 ≤ q) : orI (cmpI (p / 18446744073709551616) (q / 18446744073709551616)) (cmpI (p % 18446744073709551616) (q % 18446744073709551616)) = cmpI p q := by
  unfold orI cmpI
  repeat' split
  all_goals omega

theorem cross_any (a b c d : Nat) (w : World) (ha : a < 18446744073709551616) (hb : b < 18446744073709551616) (hc : c < 18446744073709551616) (hd : d < 18446744073709551616) :
    Calls Try.prog 63 #[.int .u64 a, .int .u64 b, .int .u64 c, .int .u64 d] w fun e w' => e = .returned (.int .i64 (cmpI ((a * b : Nat) : Int) ((c * d : Nat) : Int))) ∧ Below w.heap.size w w' := by
  rw [← cross_halves _ _ (by omega) (by omega)]
  have C1 := fun W => product_any a b W ha hb
  have C2 := fun W => product_any c d W hc hd
  generalize ((a * b : Nat) : Int) = p at *
  generalize ((c * d : Nat) : Int) = q at *
  generalize hp1 : p / 18446744073709551616 = p1 at *
  generalize hp2 : p % 18446744073709551616 = p2 at *
  generalize hq1 : q / 18446744073709551616 = q1 at *
  generalize hq2 : q % 18446744073709551616 = q2 at *
  clear hp1 hp2 hq1 hq2
  replace C1 := Lib.hid C1
  replace C2 := Lib.hid C2
  go_enter Try.func63, Try.ntmps63
  go_wp2_with fail
  refine (C1.out _).mono ?_
  rintro e w1 ⟨rfl, hb1⟩
  go_wp2_with fail
  refine (C2.out _).mono ?_
  rintro e w2 ⟨rfl, hb2⟩
  go_wp2_with fail
  have B1 := (Blk.new w2 141 #[.int .u64 p1, .int .u64 p2]).alloc (.cells #[.int .u64 q1, .int .u64 q2] 141)
  have B2 := Blk.new (w2.alloc (.cells #[.int .u64 p1, .int .u64 p2] 141)) 141 #[.int .u64 q1, .int .u64 q2]
  rw [World.size_alloc] at B2
  have hbx : Below w.heap.size w ((w2.alloc (.cells #[.int .u64 p1, .int .u64 p2] 141)).alloc (.cells #[.int .u64 q1, .int .u64 q2] 141)) := by
    have z1 := hb1.size
    have z2 := hb2.size
    exact ((below_call hb1 z1 hb2).alloc (by omega) _).alloc (by rw [World.size_alloc]; omega) _
  generalize (w2.alloc (.cells #[.int .u64 p1, .int .u64 p2] 141)).alloc (.cells #[.int .u64 q1, .int .u64 q2] 141) = X at *
  have z1 := B1.lt
  have z2 := B2.lt
  have c1 := B1.cell 0
  have c2 := B1.cell 1
  have c3 := B2.cell 0
  have c4 := B2.cell 1
  simp at c1 c2 c3 c4
  generalize w2.heap.size = g at *
  have n1 := World.new_ne X _ c1
  have n3 := World.new_ne X _ c3
  clear C1 C2 hb1 hb2 B1 B2
  have hz := hbx.size
  go_region_held3 (fun w' => w'.cell? ⟨g, 0, none⟩ = some (.int .u64 p1) ∧ w'.cell? ⟨g, 1, none⟩ = some (.int .u64 p2) ∧ w'.cell? ⟨g + 1, 0, none⟩ = some (.int .u64 q1) ∧ w'.cell? ⟨g + 1, 1, none⟩ = some (.int .u64 q2)) (go_keep) (first
    | (go_at_call 108; refine (compare_any _ _ _).mono ?_; rintro e w' ⟨rfl, rfl⟩)
    | (go_at_call 107; refine (or_any _ _ _ _ (by exact Blk.new _ _ _)).mono ?_; rintro e w' ⟨rfl, rfl⟩))
  go_wp2_with fail
  go_ret
  exact ⟨rfl, (by repeat (first | exact Below.refl _ _ | assumption | refine below_alloc ?_ _ | refine below_chain (by assumption) ?_ | refine below_call2 (by assumption) ?_ (by first | omega | (simp; done) | (simp; omega) | (simp [World.setCell]; omega)) | refine below_drewN ?_ _ | refine Below.drew ?_ | refine Below.alloc ?_ (by first | omega | (simp; done) | (simp; omega) | (simp [World.setCell]; omega)) _ | refine Below.setCell ?_ (by first | omega | (simp; done) | (simp; omega) | (simp [World.setCell]; omega)) _))⟩
end Go.Proofs.Ytdkcjfcjckpjcaa
