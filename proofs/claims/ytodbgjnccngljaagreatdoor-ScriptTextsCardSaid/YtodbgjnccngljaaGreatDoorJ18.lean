/- addr: the law AddrBack: facts. -/
import Derived.Test.YtodbgjnccngljaaGreatDoorJ16
import Derived.Test.YtodbgjnccngljaaGreatDoorJ15
import Derived.Test.YtodbgjnccngljaaGreatDoorJ9
namespace Go.Proofs.YtodbgjnccngljaaGreatDoor
open Go Go.RowKit Go.Deep
def lessA (v : Bool) (hi lo : Nat) (v' : Bool) (hi' lo' : Nat) : Bool := if v = v' then decide (hi < hi') || (decide (hi = hi') && decide (lo < lo')) else v'
theorem adrTxt_len (v : Bool) (hi lo : Nat) : (adrTxt v hi lo).length ≤ 100 := by
 unfold adrTxt
 generalize adrPut v hi lo = b
 show (if b.length = 4 then txt4 b else if b.length = 16 then txt6 b else []).length ≤ 100
 by_cases h4 : b.length = 4
 ·
  rw [if_pos h4]
  have h := join_len_le 46 3 (b.map fun c => dec3 c.toNat) (fun x hx => by obtain ⟨c, _, rfl⟩ := List.mem_map.1 hx; exact dec3_len _)
  rw [List.length_map, h4] at h
  unfold txt4
  omega
 ·
  rw [if_neg h4]
  by_cases h16 : b.length = 16
  ·
   rw [if_pos h16]
   obtain ⟨-, hn, hx⟩ := flatten_prs 8 b (by omega)
   have h := join_len_le 58 4 ((prs b).map hexL) (fun x hm => by
    obtain ⟨c, hc, rfl⟩ := List.mem_map.1 hm
    rw [hexL_len, hx c hc]
    omega)
   rw [List.length_map, hn] at h
   unfold txt6
   omega
  ·
   rw [if_neg h16]
   exact Nat.zero_le _
end Go.Proofs.YtodbgjnccngljaaGreatDoor
