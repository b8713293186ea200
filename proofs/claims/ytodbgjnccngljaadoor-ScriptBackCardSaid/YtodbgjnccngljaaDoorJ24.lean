/- addr: the law AddrBack: facts. -/
import Derived.Test.YtodbgjnccngljaaDoorJ16
import Derived.Test.YtodbgjnccngljaaDoorJ15
import Derived.Test.YtodbgjnccngljaaDoorJ9
namespace Go.Proofs.YtodbgjnccngljaaDoor
open Go Go.RowKit Go.Deep

def lessA (v : Bool) (hi lo : Nat) (v' : Bool) (hi' lo' : Nat) : Bool := if v = v' then decide (hi < hi') || (decide (hi = hi') && decide (lo < lo')) else v'
theorem lessA_self (v : Bool) (hi lo : Nat) : lessA v hi lo v hi lo = false := by unfold lessA; simp
theorem lessA_cases (v : Bool) (hi lo : Nat) (v' : Bool) (hi' lo' : Nat) :
    (lessA v hi lo v' hi' lo' = false ∧ lessA v' hi' lo' v hi lo = false ∧ adrB v hi lo v' hi' lo' = true) ∨ (lessA v hi lo v' hi' lo' = true ∧ lessA v' hi' lo' v hi lo = false ∧ adrB v hi lo v' hi' lo' = false) ∨ (lessA v hi lo v' hi' lo' = false ∧ lessA v' hi' lo' v hi lo = true ∧ adrB v hi lo v' hi' lo' = false) := by
  have hd : ∀ (p : Prop) [Decidable p], ¬ p → decide p = false := fun p _ h => decide_eq_false h
  by_cases hv : v = v'
  · subst hv
    unfold lessA adrB
    rcases Nat.lt_trichotomy hi hi' with h | h | h
    · have a1 : ¬ hi' < hi := by omega
      have a2 : ¬ hi = hi' := by omega
      have a3 : ¬ hi' = hi := by omega
      simp [h, a1, a2, a3]
    · subst h
      rcases Nat.lt_trichotomy lo lo' with h | h | h
      · have a1 : ¬ lo' < lo := by omega
        have a2 : ¬ lo = lo' := by omega
        simp [h, a1, a2]
      · subst h
        simp
      · have a1 : ¬ lo < lo' := by omega
        have a2 : ¬ lo = lo' := by omega
        simp [h, a1, a2]
    · have a1 : ¬ hi < hi' := by omega
      have a2 : ¬ hi = hi' := by omega
      have a3 : ¬ hi' = hi := by omega
      simp [h, a1, a2, a3]
  · unfold lessA adrB
    have hv' : ¬ v' = v := fun e => hv e.symm
    cases v <;> cases v' <;> simp_all
theorem adr_neq (v : Bool) (hi lo : Nat) (v' : Bool) (hi' lo' : Nat) (w : World) : (binOp .neq 24 (adrL v hi lo) (adrL v' hi' lo')).run Tryd.prog w = .ok (.bool (!adrB v hi lo v' hi' lo')) w := by
  have h := adr_eql v hi lo v' hi' lo' w
  rw [run_eql_struct] at h
  rw [run_neq_struct]
  cases hx : (Op.equalIn 10000 24 (.agg #[.bool v, .int .u64 (hi : Nat), .int .u64 (lo : Nat)]) (.agg #[.bool v', .int .u64 (hi' : Nat), .int .u64 (lo' : Nat)])).run Tryd.prog w <;> rw [hx] at h <;> simp_all [Result.andThen]
theorem adrTxt_len (v : Bool) (hi lo : Nat) : (adrTxt v hi lo).length ≤ 100 := by
  unfold adrTxt
  generalize adrPut v hi lo = b
  show (if b.length = 4 then txt4 b else if b.length = 16 then txt6 b else []).length ≤ 100
  by_cases h4 : b.length = 4
  · rw [if_pos h4]
    have h := join_len_le 46 3 (b.map fun c => dec3 c.toNat) (fun x hx => by obtain ⟨c, _, rfl⟩ := List.mem_map.1 hx; exact dec3_len _)
    rw [List.length_map, h4] at h
    unfold txt4
    omega
  · rw [if_neg h4]
    by_cases h16 : b.length = 16
    · rw [if_pos h16]
      obtain ⟨-, hn, hx⟩ := flatten_prs 8 b (by omega)
      have h := join_len_le 58 4 ((prs b).map hexL) (fun x hm => by
        obtain ⟨c, hc, rfl⟩ := List.mem_map.1 hm
        rw [hexL_len, hx c hc]
        omega)
      rw [List.length_map, hn] at h
      unfold txt6
      omega
    · rw [if_neg h16]
      exact Nat.zero_le _
end Go.Proofs.YtodbgjnccngljaaDoor
