/- SameInts of the references, and readings of rows. conn: contracts. conn.Run: its contract. cloakroomlaw18.awake: true. -/
import Derived.Test.YtohapcacckapoaaGreatJ2
import Derived.Test.YtohapcacckapoaaGreatChecked
import Derived.WalkLawsBesides
import Derived.Lib.Hide
import Derived.Deep.OwnRows
import Derived.Deep.QuietTactic
import Derived.BigQuiet
namespace Go.Proofs.YtohapcacckapoaaGreat
open Go Go.RowKit Go.Deep
theorem own : ownKnob Tryz.prog.godebug = none := by kernel_rfl
theorem laidOut : laidOutB Tryz.prog = true := by kernel_rfl
theorem info_int : (Tryz.prog.info? 3).map (fun i => (i.zero, i.size, i.bytes)) = some (some (.int .i64 0), 1, 8) := by kernel_rfl
theorem reads_lit (w : World) (B : Nat) (t : TypeId) (xs : List Value) (hB : w.heap.size < B) : Reads (w.alloc (.cells xs.toArray t)) B 1 (some ⟨w.heap.size, 0, none⟩) xs.length xs := by
 refine ⟨by simp, fun _ => ⟨_, rfl, hB, fun j u hu => ?_⟩⟩
 have e : (⟨w.heap.size, 0, none⟩ : Addr).add j = ⟨w.heap.size, j, none⟩ := by unfold Addr.add; split <;> simp_all
 rw [e, (Blk.new w t xs.toArray).cell j]
 simpa using hu
theorem reads_lit1 (w : World) (b B : Nat) (t : TypeId) (v : Value) (hb : b = w.heap.size) (hB : w.heap.size < B) : Reads (w.alloc (.cells #[v] t)) B 1 (some ⟨b, 0, none⟩) 1 [v] := by
 subst hb
 exact reads_lit w B t [v] hB
theorem Reads.drewN {w : World} {B size n : Nat} {A : Option Addr} {xs : List Value} (h : Reads w B size A n xs) (k : Nat) : Reads (w.drewN k) B size A n xs := h
theorem Reads.int_at {w : World} {B : Nat} {A : Option Addr} {xs : List Int} {k : IntKind} {i : Nat} (h : Reads w B 1 A xs.length (xs.map (.int k))) (hi : i < xs.length) :
  ∃ ad, A = some ad ∧ ad.block < B ∧ w.cell? (ad.add i) = some (.int k (xs.getD i 0)) := by
 obtain ⟨ad, u, rfl, hb, hu, hc⟩ := h.at_ hi
 refine ⟨ad, rfl, hb, ?_⟩
 rw [hc, List.getD_eq_getElem?_getD, List.getElem?_eq_getElem hi]
 rw [List.getElem?_map, List.getElem?_eq_getElem hi] at hu
 simpa using hu.symm
def sameL : List Int → List Int → Bool := fun a b => a == b
end Go.Proofs.YtohapcacckapoaaGreat
namespace Go.Proofs.YtohapcacckapoaaGreat
open Go Go.RowKit
def hasB (f s : Int) : Bool := bits BinOp.and IntKind.i64 f s == s
def nextS (st b : Int) : Int := if st < 1 ∨ 3 < st then st else if hasB b 4 then 4 else if hasB b 1 then 3 else if hasB b 16 then max st 2 else st
def firstB (p b : Int) : Bool := p == 6 && hasB b 2 && !(bits BinOp.and IntKind.i64 b 21 != 0)
def beginS (p b : Int) : Int := if p == 17 then 5 else if firstB p b then 1 else 0
def stepsS : Int → List Int → List Int
 | _, [] => []
 | s, b :: r => nextS s b :: stepsS (nextS s b) r
def runS (p : Int) : List Int → List Int
 | [] => []
 | b :: r => beginS p b :: stepsS (beginS p b) r
end Go.Proofs.YtohapcacckapoaaGreat
namespace Go.Proofs.YtohapcacckapoaaGreat
open Go Go.RowKit Go.Deep
def idleS (a b c d s : Int) : Int := if s = 1 then a else if s = 2 then b else if s = 3 then c else if s = 5 then d else 0
set_option maxHeartbeats 400000 in
theorem times_any (a b c d : Int) (w : World) : Calls Tryz.prog 117 #[.agg #[.int .i64 a, .int .i64 b, .int .i64 c, .int .i64 d]] w fun e w' =>
  e = .returned (.agg #[.int .i64 0, .int .i64 a, .int .i64 b, .int .i64 c, .int .i64 0, .int .i64 d]) ∧ Below w.heap.size w w' := by
 go_enter Tryz.func117, Tryz.ntmps117
 go_wp2
 refine bodyPost_ret (v := .agg #[.int .i64 0, .int .i64 a, .int .i64 b, .int .i64 c, .int .i64 0, .int .i64 d]) (by simp [results, Tryz.results117, go_sem]) rfl ⟨rfl, ?_⟩
 exact (by repeat (first | exact Below.refl _ _ | assumption | refine below_alloc ?_ _ | refine below_chain (by assumption) ?_ | refine below_call2 (by assumption) ?_ (by first | omega | (simp; done) | (simp; omega) | (simp [World.setCell]; omega)) | refine below_drewN ?_ _ | refine Below.drew ?_ | refine Below.alloc ?_ (by first | omega | (simp; done) | (simp; omega) | (simp [World.setCell]; omega)) _ | refine Below.setCell ?_ (by first | omega | (simp; done) | (simp; omega) | (simp [World.setCell]; omega)) _))
set_option maxHeartbeats 400000 in
theorem idx_fact (a b c d : Int) : ∀ s : Int, s ∈ [0, 1, 2, 3, 4, 5] → ∀ w, (Instr.index 205 (.agg #[.int .i64 0, .int .i64 a, .int .i64 b, .int .i64 c, .int .i64 0, .int .i64 d]) (.int .i64 s)).run Tryz.prog w = .ok (.int .i64 (idleS a b c d s)) w := by
 intro s hs w
 simp at hs
 rcases hs with rfl | rfl | rfl | rfl | rfl | rfl
 all_goals kernel_rfl
end Go.Proofs.YtohapcacckapoaaGreat
