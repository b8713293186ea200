/- sip: mix, take. -/
import Derived.Test.YtdkcjfcjckpjcaaSipB
namespace Go.Proofs.Ytdkcjfcjckpjcaa
open Go Go.RowKit Go.Deep

def siter : Nat → Sip → Sip
  | 0, s => s
  | k + 1, s => sround (siter k s)
def stake (s : Sip) (m : Int) : Sip :=
  let t := siter 2 ⟨s.a, s.b, s.c, xorU s.d m⟩
  ⟨xorU t.a m, t.b, t.c, t.d⟩

set_option maxHeartbeats 1000000 in
theorem mix_any (g o : Nat) (t : TypeId) (n : Nat) (f : Nat → Value) (s : Sip) (k : Nat) (w : World) (h : w.rowIs g t n (sipF f o s)) (hn : o + 3 < n) (hk : k ≤ 64) (hk0 : 0 < k) :
    Calls Try.prog 147 #[.pointer (some ⟨g, o, none⟩), .int .i64 k] w fun e w' => e = .returned (.tuple #[]) ∧ w'.rowIs g t n (sipF f o (siter k s)) ∧ Chg (· = g) w w' := by
  go_enter Try.func147, Try.ntmps147
  go_wp2_with fail
  go_loopw [7] (fun i wr => ∃ j : Nat, j ≤ k ∧ i = .int .i64 j ∧ wr.rowIs g t n (sipF f o (siter j s)) ∧ Chg (· = g) w wr) (fun i _ => k - (intOf i).toNat)
  case atStart => exact ⟨0, by omega, rfl, h, Chg.refl _ _⟩
  case round =>
    obtain ⟨j, hj, rfl, hr, hc⟩ := hrel
    clear h
    by_cases hlt : j < k
    · have hlti : (j : Int) < (k : Int) := by omega
      go_wp2_with (go_at_call 153; refine (sipround_any g o t n f (siter j s) _ hr hn).mono ?_; rintro e w1 ⟨rfl, hr1, hc1⟩)
      go_roundw
      case rel => exact ⟨j + 1, by omega, by go_num, hr1, hc.trans hc1 (fun _ _ h => h)⟩
      case measure => simp [intOf]; omega
    · obtain rfl : j = k := by omega
      have hlti : ¬ (j : Int) < (j : Int) := by omega
      go_wp2_with fail
      go_end0
      exact ⟨rfl, hr, hc⟩

set_option maxHeartbeats 1000000 in
theorem take_any (g o : Nat) (t : TypeId) (n : Nat) (f : Nat → Value) (s : Sip) (m : Int) (w : World) (h : w.rowIs g t n (sipF f o s)) (hn : o + 3 < n) :
    Calls Try.prog 146 #[.pointer (some ⟨g, o, none⟩), .int .u64 m] w fun e w' => e = .returned (.tuple #[]) ∧ w'.rowIs g t n (sipF f o (stake s m)) ∧ Chg (· = g) w w' := by
  obtain ⟨a0, b0, c0, d0⟩ := s
  have r1 := h.cell (i := o + 3) (by omega)
  have q1 := h.frozen (o + 3)
  simp [sipF] at r1
  go_enter Try.func146, Try.ntmps146
  go_wp2_with fail
  go_region
  clear r1 q1
  obtain ⟨y, hy⟩ : ∃ y, bits BinOp.xor IntKind.u64 d0 m = y := ⟨_, rfl⟩
  rw [hy]
  have h1 := (sip_setd h y).drew
  have hc1 : Chg (· = g) w (w.setCell ⟨g, o + 3, none⟩ (.int .u64 y)).drew := ((Chg.refl (· = g) w).setCell (p := ⟨g, o + 3, none⟩) (fun _ => rfl) _).drew
  generalize (w.setCell ⟨g, o + 3, none⟩ (.int .u64 y)).drew = w1 at *
  obtain ⟨s1, hs1⟩ : ∃ s1, siter 2 ⟨a0, b0, c0, y⟩ = s1 := ⟨_, rfl⟩
  have M := mix_any g o t n f ⟨a0, b0, c0, y⟩ 2 w1 h1 hn (by omega) (by omega)
  rw [hs1] at M
  have hT : stake ⟨a0, b0, c0, d0⟩ m = ⟨xorU s1.a m, s1.b, s1.c, s1.d⟩ := by
    rw [← hs1, ← hy]; rfl
  replace hT := Lib.hid hT
  clear h1 hs1 hy h
  go_wp2_with fail
  refine M.mono ?_
  rintro e w2 ⟨rfl, h2, hc2⟩
  have hc := hc1.trans hc2 (fun _ _ h => h)
  clear M hc1 hc2
  have r1 := h2.cell (i := o) (by omega)
  have q1 := h2.frozen o
  simp [sipF] at r1
  go_wp2_with fail
  go_region
  go_wp2_with fail
  go_end0
  rw [hT.out]
  exact ⟨rfl, (sip_seta h2 _).drew, (hc.setCell (p := ⟨g, o, none⟩) (fun _ => rfl) _).drew⟩
end Go.Proofs.Ytdkcjfcjckpjcaa
