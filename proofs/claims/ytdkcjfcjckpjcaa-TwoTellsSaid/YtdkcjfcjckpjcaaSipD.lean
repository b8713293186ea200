/- sip: New. -/
import Derived.Test.YtdkcjfcjckpjcaaSipC
import Derived.Lib.ConvBytes
namespace Go.Proofs.Ytdkcjfcjckpjcaa
open Go Go.RowKit Go.Deep

def hasherF (s : Sip) (last count : Int) : Nat → Value := sipF (fun j => if j = 0 then .bool true else if j = 5 then .int .u64 last else .int .i64 count) 1 s
def sip0 (a b : Int) : Sip := ⟨xorU 8317987319222330741 a, xorU 7237128888997146477 b, xorU 7816392313619706465 a, xorU 8387220255154660723 b⟩
theorem new_sip (a b : Int) (w : World) : Calls Try.prog 133 #[.agg #[.int .u64 a, .int .u64 b]] w fun e w' => ∃ g, e = .returned (.pointer (some ⟨g, 0, none⟩)) ∧ w'.rowIs g 177 7 (hasherF (sip0 a b) 0 0) ∧ Below w.heap.size w w' ∧ w.heap.size ≤ g := by
  go_enter Try.func133, Try.ntmps133
  go_wp2
  go_ret
  have hN := Blk.new (w.alloc (.cells #[.int .u64 a, .int .u64 b] 119)) 177 #[.bool true, .int .u64 (xorU 8317987319222330741 a), .int .u64 (xorU 7237128888997146477 b), .int .u64 (xorU 7816392313619706465 a), .int .u64 (xorU 8387220255154660723 b), .int .u64 0, .int .i64 0]
  rw [World.size_alloc] at hN
  refine ⟨_, rfl, ⟨_, hN, rfl, fun i hi => ?_⟩, (by repeat (first | exact Below.refl _ _ | assumption | refine below_alloc ?_ _ | refine below_chain (by assumption) ?_ | refine below_call2 (by assumption) ?_ (by first | omega | (simp; done) | (simp; omega) | (simp [World.setCell]; omega)) | refine below_drewN ?_ _ | refine Below.drew ?_ | refine Below.alloc ?_ (by first | omega | (simp; done) | (simp; omega) | (simp [World.setCell]; omega)) _ | refine Below.setCell ?_ (by first | omega | (simp; done) | (simp; omega) | (simp [World.setCell]; omega)) _)), by simp⟩
  have hi' : i = 0 ∨ i = 1 ∨ i = 2 ∨ i = 3 ∨ i = 4 ∨ i = 5 ∨ i = 6 := by omega
  rcases hi' with rfl | rfl | rfl | rfl | rfl | rfl | rfl <;> rfl
theorem bytesWorld_chg (w : World) (e : TypeId) (s : ByteArray) : Chg (fun _ => False) w (Lib.bytesWorld w e s) :=
  ⟨rfl, rfl, rfl, by rw [Lib.bytesWorld_size]; omega, fun b hb _ => Lib.bytesWorld_at_old w e s b hb⟩
end Go.Proofs.Ytdkcjfcjckpjcaa
