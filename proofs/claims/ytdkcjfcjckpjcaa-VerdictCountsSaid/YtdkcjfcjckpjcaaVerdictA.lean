/- verdict: Right and of. -/
import Derived.Test.YtdkcjfcjckpjcaaSlices
import Derived.RegionTactic
namespace Go.Proofs.Ytdkcjfcjckpjcaa
open Go Go.RowKit Go.Deep

structure Vd where
  k : Int
  e : Int
  b : Int
  c : Int
  f : Bool
  s : ByteArray
@[reducible] def Vd.cells (v : Vd) : Array Value := #[.int .i64 v.k, .int .i64 v.e, .int .i64 v.b, .int .u64 v.c, .bool v.f, .string v.s]
def noS (s : ByteArray) : Bool := s.toList.isEmpty
def vRight (v : Vd) : Bool :=
  if v.k == 1 then v.e == 0 && decide (1 ≤ v.b) && decide (v.b ≤ 65535)
  else if v.k == 2 || v.k == 3 then (v.b == 0 && v.c == 0 && !v.f) && (decide (1 ≤ v.e) && decide (v.e ≤ 16)) && (v.k == 2 || noS v.s)
  else false

set_option maxRecDepth 100000 in
set_option maxHeartbeats 1000000 in
theorem right_v (v : Vd) (w : World) : Calls Try.prog 47 #[.agg v.cells] w fun e w' => e = .returned (.bool (vRight v)) ∧ Below w.heap.size w w' := by
  obtain ⟨k, er, b, c, f, s⟩ := v
  obtain ⟨R, hR⟩ : ∃ R, vRight ⟨k, er, b, c, f, s⟩ = R := ⟨_, rfl⟩
  rw [hR]
  unfold vRight noS at hR
  dsimp only at hR
  by_cases h1 : k = 1
  · subst h1
    replace hR := Lib.hid hR
    go_enter Try.func47, Try.ntmps47
    go_wp2
    all_goals go_ret
    all_goals refine ⟨ret_bool ?_, (by repeat (first | exact Below.refl _ _ | assumption | refine below_call2 (by assumption) ?_ (by first | omega | (simp; done) | (simp; omega) | (simp [World.setCell]; omega)) | refine below_drewN ?_ _ | refine Below.drew ?_ | refine Below.alloc ?_ (by first | omega | (simp; done) | (simp; omega) | (simp [World.setCell]; omega)) _ | refine Below.setCell ?_ (by first | omega | (simp; done) | (simp; omega) | (simp [World.setCell]; omega)) _))⟩
    all_goals rw [← hR.out]
    all_goals (first | (simp [*]; done) | (simp [*]; omega))
  by_cases h2 : k = 2 ∨ k = 3
  · replace hR := Lib.hid hR
    by_cases hb : b = 0
    · by_cases hc : c = 0
      · subst hb; subst hc
        cases f
        · rcases h2 with rfl | rfl
          · go_enter Try.func47, Try.ntmps47
            go_wp2
            all_goals go_ret
            all_goals refine ⟨ret_bool ?_, (by repeat (first | exact Below.refl _ _ | assumption | refine below_call2 (by assumption) ?_ (by first | omega | (simp; done) | (simp; omega) | (simp [World.setCell]; omega)) | refine below_drewN ?_ _ | refine Below.drew ?_ | refine Below.alloc ?_ (by first | omega | (simp; done) | (simp; omega) | (simp [World.setCell]; omega)) _ | refine Below.setCell ?_ (by first | omega | (simp; done) | (simp; omega) | (simp [World.setCell]; omega)) _))⟩
            all_goals rw [← hR.out]
            all_goals (first | (simp [*]; done) | (simp [*]; omega))
          · go_enter Try.func47, Try.ntmps47
            go_wp2
            all_goals go_ret
            all_goals refine ⟨ret_bool ?_, (by repeat (first | exact Below.refl _ _ | assumption | refine below_call2 (by assumption) ?_ (by first | omega | (simp; done) | (simp; omega) | (simp [World.setCell]; omega)) | refine below_drewN ?_ _ | refine Below.drew ?_ | refine Below.alloc ?_ (by first | omega | (simp; done) | (simp; omega) | (simp [World.setCell]; omega)) _ | refine Below.setCell ?_ (by first | omega | (simp; done) | (simp; omega) | (simp [World.setCell]; omega)) _))⟩
            all_goals rw [← hR.out]
            all_goals (first | (simp [*]; done) | (simp [*]; omega))
        · rcases h2 with rfl | rfl
          · go_enter Try.func47, Try.ntmps47
            go_wp2
            all_goals go_ret
            all_goals refine ⟨ret_bool ?_, (by repeat (first | exact Below.refl _ _ | assumption | refine below_call2 (by assumption) ?_ (by first | omega | (simp; done) | (simp; omega) | (simp [World.setCell]; omega)) | refine below_drewN ?_ _ | refine Below.drew ?_ | refine Below.alloc ?_ (by first | omega | (simp; done) | (simp; omega) | (simp [World.setCell]; omega)) _ | refine Below.setCell ?_ (by first | omega | (simp; done) | (simp; omega) | (simp [World.setCell]; omega)) _))⟩
            all_goals rw [← hR.out]
            all_goals (first | (simp [*]; done) | (simp [*]; omega))
          · go_enter Try.func47, Try.ntmps47
            go_wp2
            all_goals go_ret
            all_goals refine ⟨ret_bool ?_, (by repeat (first | exact Below.refl _ _ | assumption | refine below_call2 (by assumption) ?_ (by first | omega | (simp; done) | (simp; omega) | (simp [World.setCell]; omega)) | refine below_drewN ?_ _ | refine Below.drew ?_ | refine Below.alloc ?_ (by first | omega | (simp; done) | (simp; omega) | (simp [World.setCell]; omega)) _ | refine Below.setCell ?_ (by first | omega | (simp; done) | (simp; omega) | (simp [World.setCell]; omega)) _))⟩
            all_goals rw [← hR.out]
            all_goals (first | (simp [*]; done) | (simp [*]; omega))
      · subst hb
        have hc1 : (c == 0) = false := by simp [hc]
        rcases h2 with rfl | rfl
        · go_enter Try.func47, Try.ntmps47
          go_wp2
          all_goals go_ret
          all_goals refine ⟨ret_bool ?_, (by repeat (first | exact Below.refl _ _ | assumption | refine below_call2 (by assumption) ?_ (by first | omega | (simp; done) | (simp; omega) | (simp [World.setCell]; omega)) | refine below_drewN ?_ _ | refine Below.drew ?_ | refine Below.alloc ?_ (by first | omega | (simp; done) | (simp; omega) | (simp [World.setCell]; omega)) _ | refine Below.setCell ?_ (by first | omega | (simp; done) | (simp; omega) | (simp [World.setCell]; omega)) _))⟩
          all_goals rw [← hR.out]
          all_goals (first | (simp [*]; done) | (simp [*]; omega))
        · go_enter Try.func47, Try.ntmps47
          go_wp2
          all_goals go_ret
          all_goals refine ⟨ret_bool ?_, (by repeat (first | exact Below.refl _ _ | assumption | refine below_call2 (by assumption) ?_ (by first | omega | (simp; done) | (simp; omega) | (simp [World.setCell]; omega)) | refine below_drewN ?_ _ | refine Below.drew ?_ | refine Below.alloc ?_ (by first | omega | (simp; done) | (simp; omega) | (simp [World.setCell]; omega)) _ | refine Below.setCell ?_ (by first | omega | (simp; done) | (simp; omega) | (simp [World.setCell]; omega)) _))⟩
          all_goals rw [← hR.out]
          all_goals (first | (simp [*]; done) | (simp [*]; omega))
    · have hb1 : (b == 0) = false := by simp [hb]
      rcases h2 with rfl | rfl
      · go_enter Try.func47, Try.ntmps47
        go_wp2
        all_goals go_ret
        all_goals refine ⟨ret_bool ?_, (by repeat (first | exact Below.refl _ _ | assumption | refine below_call2 (by assumption) ?_ (by first | omega | (simp; done) | (simp; omega) | (simp [World.setCell]; omega)) | refine below_drewN ?_ _ | refine Below.drew ?_ | refine Below.alloc ?_ (by first | omega | (simp; done) | (simp; omega) | (simp [World.setCell]; omega)) _ | refine Below.setCell ?_ (by first | omega | (simp; done) | (simp; omega) | (simp [World.setCell]; omega)) _))⟩
        all_goals rw [← hR.out]
        all_goals (first | (simp [*]; done) | (simp [*]; omega))
      · go_enter Try.func47, Try.ntmps47
        go_wp2
        all_goals go_ret
        all_goals refine ⟨ret_bool ?_, (by repeat (first | exact Below.refl _ _ | assumption | refine below_call2 (by assumption) ?_ (by first | omega | (simp; done) | (simp; omega) | (simp [World.setCell]; omega)) | refine below_drewN ?_ _ | refine Below.drew ?_ | refine Below.alloc ?_ (by first | omega | (simp; done) | (simp; omega) | (simp [World.setCell]; omega)) _ | refine Below.setCell ?_ (by first | omega | (simp; done) | (simp; omega) | (simp [World.setCell]; omega)) _))⟩
        all_goals rw [← hR.out]
        all_goals (first | (simp [*]; done) | (simp [*]; omega))
  · have k1 : (k == 1) = false := by simp [h1]
    have k2 : (k == 2) = false := by simp; omega
    have k3 : (k == 3) = false := by simp; omega
    have hR0 : R = false := by rw [← hR, k1, k2, k3]; rfl
    subst hR0
    clear hR
    go_enter Try.func47, Try.ntmps47
    go_wp2
    all_goals go_ret
    all_goals exact ⟨rfl, (by repeat (first | exact Below.refl _ _ | assumption | refine below_call2 (by assumption) ?_ (by first | omega | (simp; done) | (simp; omega) | (simp [World.setCell]; omega)) | refine below_drewN ?_ _ | refine Below.drew ?_ | refine Below.alloc ?_ (by first | omega | (simp; done) | (simp; omega) | (simp [World.setCell]; omega)) _ | refine Below.setCell ?_ (by first | omega | (simp; done) | (simp; omega) | (simp [World.setCell]; omega)) _))⟩

theorem of_v (v : Vd) (w : World) : Calls Try.prog 48 #[.agg v.cells] w fun e w' => e = .returned (.agg v.cells) ∧ Below w.heap.size w w' := by
  obtain ⟨k, er, b, c, f, s⟩ := v
  go_enter Try.func48, Try.ntmps48
  go_wp2
  refine bodyPost_ret (v := .agg #[.int .i64 k, .int .i64 er, .int .i64 b, .int .u64 c, .bool f, .string s]) (by simp [results, Try.results48, go_sem]) rfl ⟨rfl, (by repeat (first | exact Below.refl _ _ | assumption | refine below_call2 (by assumption) ?_ (by first | omega | (simp; done) | (simp; omega) | (simp [World.setCell]; omega)) | refine below_drewN ?_ _ | refine Below.drew ?_ | refine Below.alloc ?_ (by first | omega | (simp; done) | (simp; omega) | (simp [World.setCell]; omega)) _ | refine Below.setCell ?_ (by first | omega | (simp; done) | (simp; omega) | (simp [World.setCell]; omega)) _))⟩
end Go.Proofs.Ytdkcjfcjckpjcaa
