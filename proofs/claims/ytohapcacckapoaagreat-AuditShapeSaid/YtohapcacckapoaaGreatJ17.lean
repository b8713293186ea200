/- tables: the iterator over all parts. -/
import Derived.Test.YtohapcacckapoaaGreatJ6
import Derived.Test.YtohapcacckapoaaGreatChecked
import Derived.RangeFuncBox
import Derived.Shelf.Abstract
import Derived.Shelf.RegionOpen
import Derived.WalkKit
import Derived.OwnWalkIn
import Derived.TacticsInMore
import Derived.LoopNIn
import Derived.LoopIn
namespace Go.Proofs.YtohapcacckapoaaGreat
open Go Go.RowKit
attribute [local go_sem] Oper.semAt_some
set_option maxRecDepth 100000 in
set_option maxHeartbeats 2000000 in
theorem each_iter (Bx g pb p q : Nat) (gs : Nat → Nat) (hp : p ≤ 16) (C : World → Prop) (hC : ∀ W, C W → W.cell? ⟨Bx, 0, none⟩ = some (.pointer (some ⟨g, 0, none⟩)) ∧ W.cell? ⟨g, 11, none⟩ = some (.slice (some ⟨pb, 0, none⟩) p q) ∧ ∀ i, i < p → W.cell? ⟨pb, i, none⟩ = some (.pointer (some ⟨gs i, 0, none⟩))) :
  IterN Tryz.prog 123 #[.pointer (some ⟨Bx, 0, none⟩)] (fun i => .pointer (some ⟨gs i, 0, none⟩)) p C := fun l J Jx W hJ hY h0 => by
 have hx := fun k W1 h => hC W1 (hJ k W1 h)
 obtain ⟨b0, c0, d0⟩ := hx 0 W h0
 (refine callsIn_of_wp Tryz.func123 rfl trivial ?_ rfl); simp only [Tryz.ntmps123, List.size_toArray, List.length_cons, List.length_nil, Nat.reduceAdd, Nat.reduceSub, Array.replicate_succ, Array.replicate_zero, List.push_toArray, List.append_toArray, List.nil_append, List.cons_append]
 gi_wp2
 clear b0 c0 d0
 gi_loopw [12] (fun i wr => ∃ k : Nat, k ≤ p ∧ i = .int .i64 k ∧ J k wr) (fun i _ => p - (intOf i).toNat)
 case atStart => exact ⟨0, Nat.zero_le _, rfl, h0⟩
 case round =>
  obtain ⟨k, hk, rfl, hJs⟩ := hrel
  obtain ⟨b0, c0, d0⟩ := hx k wr hJs
  by_cases hlt : k < p
  ·
   obtain ⟨fn, tmps, assign, body, hy, hR⟩ := hY k wr hlt hJs
   have e0 := d0 k hlt
   have hki : (k : Int) < (p : Int) := by omega
   clear d0
   gi_wp2
   refine hR.mono ?_
   rintro e W3 (⟨rfl, hJ3⟩ | ⟨rfl, hJx3⟩)
   ·
    gi_wp2
    go_roundw
    case rel => exact ⟨k + 1, by omega, by simp, hJ3⟩
    case measure => simp [intOf]; omega
   ·
    gi_wp2
    refine bodyPost_ret (results_none rfl _ _ _) rfl ?_
    exact ⟨⟨_, rfl⟩, .inr hJx3⟩
  ·
   obtain rfl : k = p := by omega
   gi_wp2
   go_end0
   exact ⟨⟨_, rfl⟩, .inl hJs⟩
end Go.Proofs.YtohapcacckapoaaGreat
