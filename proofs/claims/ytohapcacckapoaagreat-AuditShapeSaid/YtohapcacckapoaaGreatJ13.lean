/- conn: the reference's functions, Right, Name. -/
import Derived.Test.YtohapcacckapoaaGreatJ7
import Derived.Test.YtohapcacckapoaaGreatJ8
import Derived.Deep.RegionHeld3
namespace Go.Proofs.YtohapcacckapoaaGreat
open Go Go.RowKit Go.Deep
def okT (x : Int) : Bool := decide (1 ≤ x) && decide (x ≤ 1048576)
def rightS (a b c d : Int) : Bool := okT a && okT b && okT c && okT d
set_option maxRecDepth 100000 in
theorem right_any (a b c d : Int) (w : World) : Calls Tryz.prog 98 #[.agg #[.int .i64 a, .int .i64 b, .int .i64 c, .int .i64 d]] w fun e w' => e = .returned (.bool (rightS a b c d)) ∧ Below w.heap.size w w' := by
 have i0 := idx_fact a b c d 0 (by decide)
 have i1 := idx_fact a b c d 1 (by decide)
 have i2 := idx_fact a b c d 2 (by decide)
 have i3 := idx_fact a b c d 3 (by decide)
 have i4 := idx_fact a b c d 4 (by decide)
 have i5 := idx_fact a b c d 5 (by decide)
 have e0 : idleS a b c d 0 = 0 := rfl
 have e1 : idleS a b c d 1 = a := rfl
 have e2 : idleS a b c d 2 = b := rfl
 have e3 : idleS a b c d 3 = c := rfl
 have e4 : idleS a b c d 4 = 0 := rfl
 have e5 : idleS a b c d 5 = d := rfl
 rw [e0] at i0
 rw [e1] at i1
 rw [e2] at i2
 rw [e3] at i3
 rw [e4] at i4
 rw [e5] at i5
 clear e0 e1 e2 e3 e4 e5
 go_enter Tryz.func98, Tryz.ntmps98
 go_wp2_with (go_at_call 117; refine (times_any _ _ _ _ _).mono ?_; rintro e w1 ⟨rfl, hb1⟩)
 have hb : Below w.heap.size w w1 := (by repeat (first | exact Below.refl _ _ | assumption | refine below_alloc ?_ _ | refine below_chain (by assumption) ?_ | refine below_call2 (by assumption) ?_ (by first | omega | (simp; done) | (simp; omega) | (simp [World.setCell]; omega)) | refine below_drewN ?_ _ | refine Below.drew ?_ | refine Below.alloc ?_ (by first | omega | (simp; done) | (simp; omega) | (simp [World.setCell]; omega)) _ | refine Below.setCell ?_ (by first | omega | (simp; done) | (simp; omega) | (simp [World.setCell]; omega)) _))
 clear hb1
 refine wp_loop_rounds 7 ?_
 iterate 7 (all_goals (try (rw [rounds_succ])); all_goals (go_wp2_with fail))
 all_goals go_ret
 all_goals refine ⟨ret_bool ?_, hb⟩
 all_goals (simp [rightS, okT]; omega)
set_option maxRecDepth 100000 in
theorem refright_any (a b c d : Int) (w : World) : Calls Tryz.prog 72 #[.agg #[.int .i64 a, .int .i64 b, .int .i64 c, .int .i64 d]] w fun e w' => e = .returned (.bool (rightS a b c d)) ∧ Below w.heap.size w w' := by
 go_enter Tryz.func72, Tryz.ntmps72
 go_wp2_with fail
 refine wp_loop_rounds 5 ?_
 iterate 5 (all_goals (try (rw [rounds_succ])); all_goals (go_wp2_with fail))
 all_goals go_ret
 all_goals refine ⟨ret_bool ?_, (by repeat (first | exact Below.refl _ _ | assumption | refine below_alloc ?_ _ | refine below_chain (by assumption) ?_ | refine below_call2 (by assumption) ?_ (by first | omega | (simp; done) | (simp; omega) | (simp [World.setCell]; omega)) | refine below_drewN ?_ _ | refine Below.drew ?_ | refine Below.alloc ?_ (by first | omega | (simp; done) | (simp; omega) | (simp [World.setCell]; omega)) _ | refine Below.setCell ?_ (by first | omega | (simp; done) | (simp; omega) | (simp [World.setCell]; omega)) _))⟩
 all_goals (simp [rightS, okT]; omega)
def nameS (s : Int) : ByteArray :=
 if s = 1 then ⟨#[101, 109, 98, 114, 121, 111, 110, 105, 99]⟩ else if s = 2 then ⟨#[101, 115, 116, 97, 98, 108, 105, 115, 104, 101, 100]⟩ else if s = 3 then ⟨#[99, 108, 111, 115, 105, 110, 103]⟩
 else if s = 4 then ⟨#[99, 108, 111, 115, 101, 100]⟩ else if s = 5 then ⟨#[100, 97, 116, 97, 103, 114, 97, 109, 115]⟩ else ⟨#[]⟩
def pre (l : List Int) (k : Nat) : List Int := l.take k
end Go.Proofs.YtohapcacckapoaaGreat
