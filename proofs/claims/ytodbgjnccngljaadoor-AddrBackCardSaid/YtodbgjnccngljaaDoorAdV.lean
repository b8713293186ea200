/- addr: the law AddrBack: called. -/
import Derived.Test.YtodbgjnccngljaaDoorAdT
import Derived.Test.YtodbgjnccngljaaDoorAdU
import Derived.Test.YtodbgjnccngljaaDoorHold
namespace Go.Proofs.YtodbgjnccngljaaDoor
open Go Go.RowKit Go.Deep

set_option maxRecDepth 100000 in
set_option maxHeartbeats 32000000 in
theorem addrBack_calls (v : Bool) (hi lo : Nat) (v' : Bool) (hi' lo' : Nat) (l : List UInt8) (w : World) (hw : Std w) (h1 : hi < 18446744073709551616) (h2 : lo < 18446744073709551616) (hL : l.length ≤ 9223372036854775807) :
    Calls Tryd.prog 4 #[.agg #[.bool v, .int .u64 (hi : Nat), .int .u64 (lo : Nat)], .agg #[.bool v', .int .u64 (hi' : Nat), .int .u64 (lo' : Nat)], .string ⟨l.toArray⟩] w fun e w' => e = .returned (.bool true) ∧ Below w.heap.size w w' := by
  have hsl : (ByteArray.mk l.toArray).size = l.length := rfl
  by_cases h60 : 60 < l.length
  · have hbA := below_alloc (below_alloc (Below.refl w.heap.size w) (.cells #[.bool v, .int .u64 (hi : Nat), .int .u64 (lo : Nat)] 24)) (.cells #[.bool v', .int .u64 (hi' : Nat), .int .u64 (lo' : Nat)] 24)
    have g : (60 : Int) < (l.length : Int) := by omega
    have A := Lib.hid (awake04 _ (hw.below hbA))
    go_enter Tryd.func4, Tryd.ntmps4
    go_wp2_with (go_at_call 6; (with_reducible refine (A.out.mono ?_)); rintro e w1 ⟨rfl, hb1⟩)
    go_ret
    exact ⟨rfl, below_chain hb1 hbA⟩
  · rcases lessA_cases v hi lo v' hi' lo' with ⟨o1, o2, o3⟩ | ⟨o1, o2, o3⟩ | ⟨o1, o2, o3⟩ <;> rcases hr : readA l with _ | ⟨z1, z2, z3⟩
    · exact addrBack_n0 v hi lo v' hi' lo' l w hw h1 h2 (by omega) hr o1 o2 o3
    · exact addrBack_s0 v hi lo v' hi' lo' l w hw h1 h2 (by omega) z1 z2 z3 hr o1 o2 o3
    · exact addrBack_n1 v hi lo v' hi' lo' l w hw h1 h2 (by omega) hr o1 o2 o3
    · exact addrBack_s1 v hi lo v' hi' lo' l w hw h1 h2 (by omega) z1 z2 z3 hr o1 o2 o3
    · exact addrBack_n2 v hi lo v' hi' lo' l w hw h1 h2 (by omega) hr o1 o2 o3
    · exact addrBack_s2 v hi lo v' hi' lo' l w hw h1 h2 (by omega) z1 z2 z3 hr o1 o2 o3
end Go.Proofs.YtodbgjnccngljaaDoor
