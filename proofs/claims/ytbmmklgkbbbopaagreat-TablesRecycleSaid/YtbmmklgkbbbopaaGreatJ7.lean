/- SameInts of the references, and readings of rows. conn: contracts. conn.Run: its contract. cloakroomlaw18.awake: true. -/
import Derived.Test.YtbmmklgkbbbopaaGreatJ2
import Derived.Test.YtbmmklgkbbbopaaGreatChecked
import Derived.WalkLawsBesides
import Derived.Lib.Hide
import Derived.Deep.OwnRows
import Derived.Deep.QuietTactic
import Derived.BigQuiet
namespace Go.Proofs.YtbmmklgkbbbopaaGreat
open Go Go.RowKit Go.Deep

theorem own : ownKnob Tryz.prog.godebug = none := by kernel_rfl
theorem laidOut : laidOutB Tryz.prog = true := by kernel_rfl
theorem cells_int : Tryz.prog.cellsOf 3 = 1 := by kernel_rfl
theorem info_int : (Tryz.prog.info? 3).map (fun i => (i.zero, i.size, i.bytes)) = some (some (.int .i64 0), 1, 8) := by kernel_rfl

theorem quiet_add_left {P : Program} {f : FuncId} {args : Array Value} {w : World} {a n : Nat} {v : Value}
    (h : Calls P f args (w.drewN (a + n)) fun e w' => e = .returned v ∧ w.drewN (a + n) = w') :
    Calls P f args (w.drewN (a + n)) fun e w'' => e = .returned v ∧ ∃ m, w'' = w.drewN (a + m) :=
  h.mono fun _ _ ⟨he, hm⟩ => ⟨he, n, hm.symm⟩
theorem quiet_left {P : Program} {f : FuncId} {args : Array Value} {w : World} {n : Nat} {v : Value}
    (h : Calls P f args (w.drewN n) fun e w' => e = .returned v ∧ w.drewN n = w') : Calls P f args (w.drewN n) fun e w'' => e = .returned v ∧ ∃ m, w'' = w.drewN m :=
  h.mono fun _ _ ⟨he, hm⟩ => ⟨he, n, hm.symm⟩
theorem reads_of_row {w : World} {B g : Nat} {t : TypeId} {α : Type} {xs : List α} {d : α} {F : α → Value} (h : w.rowIs g t xs.length (fun i => F (xs.getD i d))) (hg : g < B) :
    Reads w B 1 (some ⟨g, 0, none⟩) xs.length (xs.map F) := by
  refine ⟨by simp, fun _ => ⟨_, rfl, hg, fun j u hu => ?_⟩⟩
  rw [List.getElem?_map, Option.map_eq_some_iff] at hu
  obtain ⟨x, hx, rfl⟩ := hu
  have hj : j < xs.length := (List.getElem?_eq_some_iff.1 hx).1
  have hc := h.cell hj
  have e : (⟨g, 0, none⟩ : Addr).add j = ⟨g, j, none⟩ := by unfold Addr.add; split <;> simp_all
  rw [e, hc, List.getD_eq_getElem?_getD, hx]
  rfl

theorem reads_lit (w : World) (B : Nat) (t : TypeId) (xs : List Value) (hB : w.heap.size < B) : Reads (w.alloc (.cells xs.toArray t)) B 1 (some ⟨w.heap.size, 0, none⟩) xs.length xs := by
  refine ⟨by simp, fun _ => ⟨_, rfl, hB, fun j u hu => ?_⟩⟩
  have e : (⟨w.heap.size, 0, none⟩ : Addr).add j = ⟨w.heap.size, j, none⟩ := by unfold Addr.add; split <;> simp_all
  rw [e, (Blk.new w t xs.toArray).cell j]
  simpa using hu
theorem reads_lit1 (w : World) (b B : Nat) (t : TypeId) (v : Value) (hb : b = w.heap.size) (hB : w.heap.size < B) : Reads (w.alloc (.cells #[v] t)) B 1 (some ⟨b, 0, none⟩) 1 [v] := by
  subst hb
  exact reads_lit w B t [v] hB
theorem reads_ints (w : World) (B : Nat) (t : TypeId) (xs : List Int) (hB : w.heap.size < B) : Reads (w.alloc (.cells (xs.map (Value.int .i64)).toArray t)) B 1 (some ⟨w.heap.size, 0, none⟩) xs.length (xs.map (.int .i64)) := by
  have := reads_lit w B t (xs.map (Value.int .i64)) hB
  rwa [List.length_map] at this

theorem Reads.drewN {w : World} {B size n : Nat} {A : Option Addr} {xs : List Value} (h : Reads w B size A n xs) (k : Nat) : Reads (w.drewN k) B size A n xs := h
theorem Reads.int_at {w : World} {B : Nat} {A : Option Addr} {xs : List Int} {k : IntKind} {i : Nat} (h : Reads w B 1 A xs.length (xs.map (.int k))) (hi : i < xs.length) :
    ∃ ad, A = some ad ∧ ad.block < B ∧ w.cell? (ad.add i) = some (.int k (xs.getD i 0)) := by
  obtain ⟨ad, u, rfl, hb, hu, hc⟩ := h.at_ hi
  refine ⟨ad, rfl, hb, ?_⟩
  rw [hc, List.getD_eq_getElem?_getD, List.getElem?_eq_getElem hi]
  rw [List.getElem?_map, List.getElem?_eq_getElem hi] at hu
  simpa using hu.symm

def sameL : List Int → List Int → Bool := fun a b => a == b
theorem sameL_step (a b : List Int) (h : a.length = b.length) (he : ∀ j, j < a.length → a.getD j 0 = b.getD j 0) : sameL a b = true := by
  have : a = b := List.ext_getElem h fun i h1 h2 => by
    have := he i h1
    simpa [List.getD_eq_getElem?_getD, h1, h2] using this
  simp [sameL, this]
theorem sameL_no (a b : List Int) (j : Nat) (hne : a.getD j 0 ≠ b.getD j 0) : sameL a b = false := by
  simp only [sameL, beq_eq_false_iff_ne]
  rintro rfl
  exact hne rfl
theorem sameL_len (a b : List Int) (h : a.length ≠ b.length) : sameL a b = false := by
  simp only [sameL, beq_eq_false_iff_ne]
  rintro rfl
  exact h rfl

end Go.Proofs.YtbmmklgkbbbopaaGreat

namespace Go.Proofs.YtbmmklgkbbbopaaGreat
open Go Go.RowKit

def hasB (f s : Int) : Bool := bits BinOp.and IntKind.i64 f s == s
def nextS (st b : Int) : Int := if st < 1 ∨ 3 < st then st else if hasB b 4 then 4 else if hasB b 1 then 3 else if hasB b 16 then max st 2 else st
def firstB (p b : Int) : Bool := p == 6 && hasB b 2 && !(bits BinOp.and IntKind.i64 b 21 != 0)
def beginS (p b : Int) : Int := if p == 17 then 5 else if firstB p b then 1 else 0
def stepsS : Int → List Int → List Int
  | _, [] => []
  | s, b :: r => nextS s b :: stepsS (nextS s b) r
def runS (p : Int) : List Int → List Int
  | [] => []
  | b :: r => beginS p b :: stepsS (beginS p b) r

theorem next_any (f s : Int) (w : World) : Calls Tryz.prog 90 #[.int .i64 f, .int .i64 s] w fun e w' => e = .returned (.int .i64 (nextS f s)) ∧ w = w' := by
  go_enter Tryz.func90, Tryz.ntmps90
  go_wp2
  all_goals go_ret
  all_goals refine ⟨ret_int ?_, rfl⟩
  all_goals (simp only [nextS, hasB]; repeat' split)
  all_goals (try simp_all)
  all_goals (try omega)
theorem first_any (f s : Int) (w : World) : Calls Tryz.prog 109 #[.int .i64 f, .int .i64 s] w fun e w' => e = .returned (.bool (firstB f s)) ∧ w = w' := by
  go_enter Tryz.func109, Tryz.ntmps109
  go_wp2
  all_goals go_ret
  all_goals refine ⟨ret_bool ?_, rfl⟩
  all_goals simp [firstB, hasB, *]
theorem begin_any (f s : Int) (w : World) : Calls Tryz.prog 67 #[.int .i64 f, .int .i64 s] w fun e w' => e = .returned (.int .i64 (beginS f s)) ∧ w = w' := by
  go_enter Tryz.func67, Tryz.ntmps67
  go_wp2_with (go_at_call 109; refine (first_any _ _ _).mono ?_; rintro e w' ⟨rfl, rfl⟩)
  all_goals go_ret
  all_goals refine ⟨ret_int ?_, rfl⟩
  all_goals simp [beginS, *]

theorem stepsS_length (s : Int) (l : List Int) : (stepsS s l).length = l.length := by
  induction l generalizing s with
  | nil => rfl
  | cons b r ih => simp [stepsS, ih]
theorem runS_length (p : Int) (l : List Int) : (runS p l).length = l.length := by
  cases l with
  | nil => rfl
  | cons b r => simp [runS, stepsS_length]
theorem stepsS_succ (s : Int) (l : List Int) (k : Nat) (hk : k + 1 < l.length) : (stepsS s l).getD (k + 1) 0 = nextS ((stepsS s l).getD k 0) (l.getD (k + 1) 0) := by
  induction l generalizing s k with
  | nil => simp at hk
  | cons b r ih =>
    cases k with
    | zero =>
      cases r with
      | nil => simp at hk
      | cons c r => simp [stepsS]
    | succ k =>
      have := ih (nextS s b) k (by simpa using hk)
      simpa [stepsS] using this
theorem runS_succ (p : Int) (l : List Int) (k : Nat) (hk : k + 1 < l.length) : (runS p l).getD (k + 1) 0 = nextS ((runS p l).getD k 0) (l.getD (k + 1) 0) := by
  cases l with
  | nil => simp at hk
  | cons b r =>
    cases k with
    | zero =>
      cases r with
      | nil => simp at hk
      | cons c r => simp [runS, stepsS]
    | succ k =>
      have := stepsS_succ (beginS p b) r k (by simpa using hk)
      simpa [runS] using this
theorem runS_zero (p : Int) (l : List Int) (hk : 0 < l.length) : (runS p l).getD 0 0 = beginS p (l.getD 0 0) := by
  cases l with
  | nil => simp at hk
  | cons b r => simp [runS]

end Go.Proofs.YtbmmklgkbbbopaaGreat

namespace Go.Proofs.YtbmmklgkbbbopaaGreat
open Go Go.RowKit Go.Deep

end Go.Proofs.YtbmmklgkbbbopaaGreat

namespace Go.Proofs.YtbmmklgkbbbopaaGreat
open Go Go.RowKit Go.Deep

def idleS (a b c d s : Int) : Int := if s = 1 then a else if s = 2 then b else if s = 3 then c else if s = 5 then d else 0
set_option maxHeartbeats 400000 in
theorem times_any (a b c d : Int) (w : World) : Calls Tryz.prog 65 #[.agg #[.int .i64 a, .int .i64 b, .int .i64 c, .int .i64 d]] w fun e w' =>
    e = .returned (.agg #[.int .i64 0, .int .i64 a, .int .i64 b, .int .i64 c, .int .i64 0, .int .i64 d]) ∧ Below w.heap.size w w' := by
  go_enter Tryz.func65, Tryz.ntmps65
  go_wp2
  refine bodyPost_ret (v := .agg #[.int .i64 0, .int .i64 a, .int .i64 b, .int .i64 c, .int .i64 0, .int .i64 d]) (by simp [results, Tryz.results65, go_sem]) rfl ⟨rfl, ?_⟩
  exact (by repeat (first | exact Below.refl _ _ | assumption | refine below_alloc ?_ _ | refine below_chain (by assumption) ?_ | refine below_call2 (by assumption) ?_ (by first | omega | (simp; done) | (simp; omega) | (simp [World.setCell]; omega)) | refine below_drewN ?_ _ | refine Below.drew ?_ | refine Below.alloc ?_ (by first | omega | (simp; done) | (simp; omega) | (simp [World.setCell]; omega)) _ | refine Below.setCell ?_ (by first | omega | (simp; done) | (simp; omega) | (simp [World.setCell]; omega)) _))
set_option maxHeartbeats 400000 in
theorem idx_fact (a b c d : Int) : ∀ s : Int, s ∈ [0, 1, 2, 3, 4, 5] → ∀ w, (Instr.index 117 (.agg #[.int .i64 0, .int .i64 a, .int .i64 b, .int .i64 c, .int .i64 0, .int .i64 d]) (.int .i64 s)).run Tryz.prog w = .ok (.int .i64 (idleS a b c d s)) w := by
  intro s hs w
  simp at hs
  rcases hs with rfl | rfl | rfl | rfl | rfl | rfl
  all_goals kernel_rfl
set_option maxHeartbeats 400000 in
theorem idle_any (a b c d s : Int) (w : World) : Calls Tryz.prog 113 #[.agg #[.int .i64 a, .int .i64 b, .int .i64 c, .int .i64 d], .int .i64 s] w fun e w' => e = .returned (.int .i64 (idleS a b c d s)) ∧ Below w.heap.size w w' := by
  by_cases h : 0 ≤ s ∧ s ≤ 5
  · have hs : s = 0 ∨ s = 1 ∨ s = 2 ∨ s = 3 ∨ s = 4 ∨ s = 5 := by omega
    clear h
    have i0 := idx_fact a b c d
    rcases hs with rfl | rfl | rfl | rfl | rfl | rfl
    · have i0 := i0 0 (by decide)
      go_enter Tryz.func113, Tryz.ntmps113
      go_wp2_with (first | (go_at_call 65; refine (times_any _ _ _ _ _).mono ?_; rintro e w1 ⟨rfl, hb1⟩) | go_in)
      go_ret
      exact ⟨rfl, (by repeat (first | exact Below.refl _ _ | assumption | refine below_alloc ?_ _ | refine below_chain (by assumption) ?_ | refine below_call2 (by assumption) ?_ (by first | omega | (simp; done) | (simp; omega) | (simp [World.setCell]; omega)) | refine below_drewN ?_ _ | refine Below.drew ?_ | refine Below.alloc ?_ (by first | omega | (simp; done) | (simp; omega) | (simp [World.setCell]; omega)) _ | refine Below.setCell ?_ (by first | omega | (simp; done) | (simp; omega) | (simp [World.setCell]; omega)) _))⟩
    · have i0 := i0 1 (by decide)
      go_enter Tryz.func113, Tryz.ntmps113
      go_wp2_with (first | (go_at_call 65; refine (times_any _ _ _ _ _).mono ?_; rintro e w1 ⟨rfl, hb1⟩) | go_in)
      go_ret
      exact ⟨rfl, (by repeat (first | exact Below.refl _ _ | assumption | refine below_alloc ?_ _ | refine below_chain (by assumption) ?_ | refine below_call2 (by assumption) ?_ (by first | omega | (simp; done) | (simp; omega) | (simp [World.setCell]; omega)) | refine below_drewN ?_ _ | refine Below.drew ?_ | refine Below.alloc ?_ (by first | omega | (simp; done) | (simp; omega) | (simp [World.setCell]; omega)) _ | refine Below.setCell ?_ (by first | omega | (simp; done) | (simp; omega) | (simp [World.setCell]; omega)) _))⟩
    · have i0 := i0 2 (by decide)
      go_enter Tryz.func113, Tryz.ntmps113
      go_wp2_with (first | (go_at_call 65; refine (times_any _ _ _ _ _).mono ?_; rintro e w1 ⟨rfl, hb1⟩) | go_in)
      go_ret
      exact ⟨rfl, (by repeat (first | exact Below.refl _ _ | assumption | refine below_alloc ?_ _ | refine below_chain (by assumption) ?_ | refine below_call2 (by assumption) ?_ (by first | omega | (simp; done) | (simp; omega) | (simp [World.setCell]; omega)) | refine below_drewN ?_ _ | refine Below.drew ?_ | refine Below.alloc ?_ (by first | omega | (simp; done) | (simp; omega) | (simp [World.setCell]; omega)) _ | refine Below.setCell ?_ (by first | omega | (simp; done) | (simp; omega) | (simp [World.setCell]; omega)) _))⟩
    · have i0 := i0 3 (by decide)
      go_enter Tryz.func113, Tryz.ntmps113
      go_wp2_with (first | (go_at_call 65; refine (times_any _ _ _ _ _).mono ?_; rintro e w1 ⟨rfl, hb1⟩) | go_in)
      go_ret
      exact ⟨rfl, (by repeat (first | exact Below.refl _ _ | assumption | refine below_alloc ?_ _ | refine below_chain (by assumption) ?_ | refine below_call2 (by assumption) ?_ (by first | omega | (simp; done) | (simp; omega) | (simp [World.setCell]; omega)) | refine below_drewN ?_ _ | refine Below.drew ?_ | refine Below.alloc ?_ (by first | omega | (simp; done) | (simp; omega) | (simp [World.setCell]; omega)) _ | refine Below.setCell ?_ (by first | omega | (simp; done) | (simp; omega) | (simp [World.setCell]; omega)) _))⟩
    · have i0 := i0 4 (by decide)
      go_enter Tryz.func113, Tryz.ntmps113
      go_wp2_with (first | (go_at_call 65; refine (times_any _ _ _ _ _).mono ?_; rintro e w1 ⟨rfl, hb1⟩) | go_in)
      go_ret
      exact ⟨rfl, (by repeat (first | exact Below.refl _ _ | assumption | refine below_alloc ?_ _ | refine below_chain (by assumption) ?_ | refine below_call2 (by assumption) ?_ (by first | omega | (simp; done) | (simp; omega) | (simp [World.setCell]; omega)) | refine below_drewN ?_ _ | refine Below.drew ?_ | refine Below.alloc ?_ (by first | omega | (simp; done) | (simp; omega) | (simp [World.setCell]; omega)) _ | refine Below.setCell ?_ (by first | omega | (simp; done) | (simp; omega) | (simp [World.setCell]; omega)) _))⟩
    · have i0 := i0 5 (by decide)
      go_enter Tryz.func113, Tryz.ntmps113
      go_wp2_with (first | (go_at_call 65; refine (times_any _ _ _ _ _).mono ?_; rintro e w1 ⟨rfl, hb1⟩) | go_in)
      go_ret
      exact ⟨rfl, (by repeat (first | exact Below.refl _ _ | assumption | refine below_alloc ?_ _ | refine below_chain (by assumption) ?_ | refine below_call2 (by assumption) ?_ (by first | omega | (simp; done) | (simp; omega) | (simp [World.setCell]; omega)) | refine below_drewN ?_ _ | refine Below.drew ?_ | refine Below.alloc ?_ (by first | omega | (simp; done) | (simp; omega) | (simp [World.setCell]; omega)) _ | refine Below.setCell ?_ (by first | omega | (simp; done) | (simp; omega) | (simp [World.setCell]; omega)) _))⟩
  · have e : idleS a b c d s = 0 := by unfold idleS; repeat' split <;> omega
    replace e := Lib.hid e
    have h0 : s < 0 ∨ 5 < s := by omega
    clear h
    rcases h0 with h | h
    · have h2 : ¬ 0 ≤ s := by omega
      go_enter Tryz.func113, Tryz.ntmps113
      go_wp2
      go_ret
      exact ⟨by rw [e.out]; rfl, (by repeat (first | exact Below.refl _ _ | assumption | refine below_alloc ?_ _ | refine below_chain (by assumption) ?_ | refine below_call2 (by assumption) ?_ (by first | omega | (simp; done) | (simp; omega) | (simp [World.setCell]; omega)) | refine below_drewN ?_ _ | refine Below.drew ?_ | refine Below.alloc ?_ (by first | omega | (simp; done) | (simp; omega) | (simp [World.setCell]; omega)) _ | refine Below.setCell ?_ (by first | omega | (simp; done) | (simp; omega) | (simp [World.setCell]; omega)) _))⟩
    · have h2 : 0 ≤ s := by omega
      have h3 : ¬ s ≤ 5 := by omega
      go_enter Tryz.func113, Tryz.ntmps113
      go_wp2
      go_ret
      exact ⟨by rw [e.out]; rfl, (by repeat (first | exact Below.refl _ _ | assumption | refine below_alloc ?_ _ | refine below_chain (by assumption) ?_ | refine below_call2 (by assumption) ?_ (by first | omega | (simp; done) | (simp; omega) | (simp [World.setCell]; omega)) | refine below_drewN ?_ _ | refine Below.drew ?_ | refine Below.alloc ?_ (by first | omega | (simp; done) | (simp; omega) | (simp [World.setCell]; omega)) _ | refine Below.setCell ?_ (by first | omega | (simp; done) | (simp; omega) | (simp [World.setCell]; omega)) _))⟩
end Go.Proofs.YtbmmklgkbbbopaaGreat
