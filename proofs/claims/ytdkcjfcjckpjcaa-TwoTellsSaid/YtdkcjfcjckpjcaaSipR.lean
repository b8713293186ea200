/- cloakroomref12: Round. -/
import Derived.Test.YtdkcjfcjckpjcaaSipC
namespace Go.Proofs.Ytdkcjfcjckpjcaa
open Go Go.RowKit Go.Deep

set_option maxRecDepth 100000 in
set_option maxHeartbeats 2000000 in
theorem refround (s : Sip) (w : World) : Calls Try.prog 141 #[.int .u64 s.a, .int .u64 s.b, .int .u64 s.c, .int .u64 s.d] w fun e w' => e = .returned (.tuple #[.int .u64 (sround s).a, .int .u64 (sround s).b, .int .u64 (sround s).c, .int .u64 (sround s).d]) ∧ Below w.heap.size w w' := by
  obtain ⟨a, b, c, d⟩ := s
  have hb0 := Below.refl w.heap.size w
  go_enter Try.func141, Try.ntmps141
  go_wp2_with fail
  refine (turn13_any _ _).mono ?_
  rintro e w1 ⟨rfl, hb⟩
  have hb1 := below_call hb0 hb0.size hb
  clear hb
  go_wp2_with fail
  refine (turn32_any _ _).mono ?_
  rintro e w2 ⟨rfl, hb⟩
  have hb2 := below_call hb1 hb1.size hb
  clear hb
  go_wp2_with fail
  refine (turn16_any _ _).mono ?_
  rintro e w3 ⟨rfl, hb⟩
  have hb3 := below_call hb2 hb2.size hb
  clear hb
  go_wp2_with fail
  refine (turn21_any _ _).mono ?_
  rintro e w4 ⟨rfl, hb⟩
  have hb4 := below_call hb3 hb3.size hb
  clear hb
  go_wp2_with fail
  refine (turn17_any _ _).mono ?_
  rintro e w5 ⟨rfl, hb⟩
  have hb5 := below_call hb4 hb4.size hb
  clear hb
  go_wp2_with fail
  refine (turn32_any _ _).mono ?_
  rintro e w6 ⟨rfl, hb⟩
  have hb6 := below_call hb5 hb5.size hb
  clear hb
  go_wp2_with fail
  refine bodyPost_ret (v := .tuple #[.int .u64 (sround ⟨a, b, c, d⟩).a, .int .u64 (sround ⟨a, b, c, d⟩).b, .int .u64 (sround ⟨a, b, c, d⟩).c, .int .u64 (sround ⟨a, b, c, d⟩).d]) (by simp [results, Try.results141, go_sem, sround, addU, xorU]) rfl ⟨rfl, hb6⟩
end Go.Proofs.Ytdkcjfcjckpjcaa
