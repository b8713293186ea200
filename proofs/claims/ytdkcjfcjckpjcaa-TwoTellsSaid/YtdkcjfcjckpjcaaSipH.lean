/- cloakroomref12: Hash. -/
import Derived.Test.YtdkcjfcjckpjcaaSipW
import Derived.Test.YtdkcjfcjckpjcaaSipF
namespace Go.Proofs.Ytdkcjfcjckpjcaa
open Go Go.RowKit Go.Deep

def lastW (x : ByteArray) : Int := IntKind.u64.wrap (wordL (x.extract (8 * (x.size / 8)) x.size).data.toList + (x.size : Int) % 256 * 72057594037927936)
def mw (x : ByteArray) (k : Nat) : Int := if k = x.size / 8 then lastW x else wordL (x.extract (8 * k) (8 * k + 8)).data.toList
def bs (x : ByteArray) (S : Sip) : Nat → Sip
  | 0 => S
  | k + 1 => stake (bs x S k) (mw x k)

set_option maxRecDepth 100000 in
set_option maxHeartbeats 4000000 in
theorem refhash (a b : Int) (x : ByteArray) (w : World) (hx : x.size ≤ 1000000) : Calls Try.prog 124 #[.agg #[.int .u64 a, .int .u64 b], .string x] w fun e w' => e = .returned (.int .u64 (sipEnd (bs x (sip0 a b) (x.size / 8 + 1)))) ∧ Below w.heap.size w w' := by
  have hb0 : Below w.heap.size w (w.alloc (.cells #[.int .u64 a, .int .u64 b] 119)) := (Below.refl _ _).alloc (Nat.le_refl _) _
  go_enter Try.func124, Try.ntmps124
  go_wp2_with fail
  go_quiet (fail)
  go_wp2_with fail
  go_quiet (fail)
  go_wp2_with fail
  go_loopw [5, 6, 7, 8, 10] (fun sa sb sc sd i wr => ∃ (k : Nat) (S : Sip), k ≤ x.size / 8 + 1 ∧ i = .int .i64 (8 * (k : Int)) ∧ S = bs x (sip0 a b) k ∧ sa = .int .u64 S.a ∧ sb = .int .u64 S.b ∧ sc = .int .u64 S.c ∧ sd = .int .u64 S.d ∧ Below w.heap.size w wr) (fun _ _ _ _ i _ => x.size + 9 - (intOf i).toNat)
  case atStart => exact ⟨0, _, by omega, rfl, rfl, rfl, rfl, rfl, rfl, below_drewN hb0 _⟩
  case round =>
    obtain ⟨k, S, hk, rfl, hS, rfl, rfl, rfl, rfl, hb⟩ := hrel
    clear hb0
    have hsucc : bs x (sip0 a b) (k + 1) = stake S (mw x k) := by rw [hS]; rfl
    replace hS := Lib.hid hS
    by_cases hlt : k < x.size / 8
    · have h2 : 8 * (k : Int) + 8 ≤ (x.size : Int) := by omega
      have h3 : 8 * (k : Int) ≤ (x.size : Int) / 8 * 8 := by omega
      have h4 : (8 * (k : Int) == (x.size : Int) / 8 * 8) = false := by simp; omega
      have hm : mw x k = wordL (x.extract (8 * k) (8 * k + 8)).data.toList := by unfold mw; rw [if_neg (by omega)]
      obtain ⟨m, hme⟩ : ∃ m, wordL (x.extract (8 * k) (8 * k + 8)).data.toList = m := ⟨_, rfl⟩
      have Wd := refword (x.extract (8 * k) (8 * k + 8)) wr (by rw [ByteArray.size_extract]; omega)
      rw [hme] at Wd hm
      rw [hm] at hsucc
      obtain ⟨a0, b0, c0, d0⟩ := S
      replace hsucc := Lib.hid hsucc
      clear hme hm
      go_wp2_with (go_at_call 140; refine Wd.mono ?_; rintro e w' ⟨rfl, rfl⟩)
      obtain ⟨y, hy⟩ : ∃ y, bits BinOp.xor IntKind.u64 d0 m = y := ⟨_, rfl⟩
      rw [hy]
      obtain ⟨T0, hT0⟩ : ∃ T : Sip, T = ⟨a0, b0, c0, y⟩ := ⟨_, rfl⟩
      have hst : stake ⟨a0, b0, c0, d0⟩ m = ⟨xorU (siter 2 T0).a m, (siter 2 T0).b, (siter 2 T0).c, (siter 2 T0).d⟩ := by rw [hT0, ← hy]; rfl
      have hstep := hsucc.out
      rw [hst] at hstep
      replace hstep := Lib.hid hstep
      clear hst hsucc hy
      go_loopw [5, 6, 7, 8, 12] (fun sa sb sc sd i wr => ∃ (j : Nat), j ≤ 2 ∧ i = .int .i64 (j : Int) ∧ sa = .int .u64 (siter j T0).a ∧ sb = .int .u64 (siter j T0).b ∧ sc = .int .u64 (siter j T0).c ∧ sd = .int .u64 (siter j T0).d ∧ Below w.heap.size w wr) (fun _ _ _ _ i _ => 2 - (intOf i).toNat)
      case atStart => exact ⟨0, by omega, rfl, by rw [hT0]; rfl, by rw [hT0]; rfl, by rw [hT0]; rfl, by rw [hT0]; rfl, hb⟩
      case round =>
        clear hb
        obtain ⟨j, hj, rfl, rfl, rfl, rfl, rfl, hb⟩ := hrel
        have hS2 : siter (j + 1) T0 = sround (siter j T0) := rfl
        have R := refround (siter j T0) wr
        by_cases hlj : j < 2
        · have hlji : (j : Int) < 2 := by omega
          obtain ⟨t, ht⟩ : ∃ t, siter j T0 = t := ⟨_, rfl⟩
          rw [ht] at R hS2 ⊢
          obtain ⟨u, hu⟩ : ∃ u, sround t = u := ⟨_, rfl⟩
          rw [hu] at R hS2
          replace hS2 := Lib.hid hS2
          replace hT0 := Lib.hid hT0
          clear hu ht
          go_wp2_with (go_at_call 141; refine R.mono ?_; rintro e w1 ⟨rfl, hb1⟩)
          go_roundw
          case rel => exact ⟨j + 1, by omega, by go_num, by rw [hS2.out], by rw [hS2.out], by rw [hS2.out], by rw [hS2.out], below_call hb hb.size hb1⟩
          case measure => simp [intOf]; omega
        · obtain rfl : j = 2 := by omega
          have hlji : ¬ (((2 : Nat) : Int) < 2) := by omega
          obtain ⟨t, ht⟩ : ∃ t, siter 2 T0 = t := ⟨_, rfl⟩
          have hst2 := hstep.out
          rw [ht] at hst2 ⊢
          replace hst2 := Lib.hid hst2
          replace hT0 := Lib.hid hT0
          clear R hS2 hstep ht
          go_wp2_with fail
          go_roundw
          case rel => exact ⟨k + 1, _, by omega, by go_num, hst2.out.symm, rfl, rfl, rfl, rfl, hb⟩
          case measure => simp [intOf]; omega
    · by_cases hq : k = x.size / 8
      · have h3 : 8 * (k : Int) ≤ (x.size : Int) / 8 * 8 := by omega
        have h4 : (8 * (k : Int) == (x.size : Int) / 8 * 8) = true := by simp; omega
        have h5 : ¬ 8 * (k : Int) + 8 ≤ (x.size : Int) := by omega
        have h6 : (x.size : Int) < 8 * (k : Int) + 8 := by omega
        have h7 : 8 * (k : Int) ≤ (x.size : Int) := by omega
        have tm : Int.tmod (x.size : Int) 256 = ((x.size % 256 : Nat) : Int) := by simp [Int.tmod]
        have hm : mw x k = lastW x := by unfold mw; rw [if_pos hq]
        unfold lastW at hm
        rw [← hq] at hm
        obtain ⟨wl, hwl⟩ : ∃ m, wordL (x.extract (8 * k) x.size).data.toList = m := ⟨_, rfl⟩
        have Wd := refword (x.extract (8 * k) x.size) wr (by rw [ByteArray.size_extract]; omega)
        rw [hwl] at Wd hm
        rw [hm] at hsucc
        obtain ⟨a0, b0, c0, d0⟩ := S
        replace hsucc := Lib.hid hsucc
        replace hq := Lib.hid hq
        clear hwl hm hlt
        go_wp2_with (go_at_call 140; refine Wd.mono ?_; rintro e w' ⟨rfl, rfl⟩)
        obtain ⟨m, hme⟩ : ∃ m, IntKind.u64.wrap (wl + (x.size : Int) % 256 * 72057594037927936) = m := ⟨_, rfl⟩
        have hsucc2 := hsucc.out
        rw [hme] at hsucc2 ⊢
        have hsucc := Lib.hid hsucc2
        clear hsucc2 hme
        obtain ⟨y, hy⟩ : ∃ y, bits BinOp.xor IntKind.u64 d0 m = y := ⟨_, rfl⟩
        rw [hy]
        obtain ⟨T0, hT0⟩ : ∃ T : Sip, T = ⟨a0, b0, c0, y⟩ := ⟨_, rfl⟩
        have hst : stake ⟨a0, b0, c0, d0⟩ m = ⟨xorU (siter 2 T0).a m, (siter 2 T0).b, (siter 2 T0).c, (siter 2 T0).d⟩ := by rw [hT0, ← hy]; rfl
        have hstep := hsucc.out
        rw [hst] at hstep
        replace hstep := Lib.hid hstep
        clear hst hsucc hy
        go_loopw [5, 6, 7, 8, 12] (fun sa sb sc sd i wr => ∃ (j : Nat), j ≤ 2 ∧ i = .int .i64 (j : Int) ∧ sa = .int .u64 (siter j T0).a ∧ sb = .int .u64 (siter j T0).b ∧ sc = .int .u64 (siter j T0).c ∧ sd = .int .u64 (siter j T0).d ∧ Below w.heap.size w wr) (fun _ _ _ _ i _ => 2 - (intOf i).toNat)
        case atStart => exact ⟨0, by omega, rfl, by rw [hT0]; rfl, by rw [hT0]; rfl, by rw [hT0]; rfl, by rw [hT0]; rfl, hb⟩
        case round =>
          clear hb
          obtain ⟨j, hj, rfl, rfl, rfl, rfl, rfl, hb⟩ := hrel
          have hS2 : siter (j + 1) T0 = sround (siter j T0) := rfl
          have R := refround (siter j T0) wr
          by_cases hlj : j < 2
          · have hlji : (j : Int) < 2 := by omega
            obtain ⟨t, ht⟩ : ∃ t, siter j T0 = t := ⟨_, rfl⟩
            rw [ht] at R hS2 ⊢
            obtain ⟨u, hu⟩ : ∃ u, sround t = u := ⟨_, rfl⟩
            rw [hu] at R hS2
            replace hS2 := Lib.hid hS2
            replace hT0 := Lib.hid hT0
            clear hu ht
            go_wp2_with (go_at_call 141; refine R.mono ?_; rintro e w1 ⟨rfl, hb1⟩)
            go_roundw
            case rel => exact ⟨j + 1, by omega, by go_num, by rw [hS2.out], by rw [hS2.out], by rw [hS2.out], by rw [hS2.out], below_call hb hb.size hb1⟩
            case measure => simp [intOf]; omega
          · obtain rfl : j = 2 := by omega
            have hlji : ¬ (((2 : Nat) : Int) < 2) := by omega
            obtain ⟨t, ht⟩ : ∃ t, siter 2 T0 = t := ⟨_, rfl⟩
            have hst2 := hstep.out
            rw [ht] at hst2 ⊢
            replace hst2 := Lib.hid hst2
            replace hT0 := Lib.hid hT0
            clear R hS2 hstep ht
            go_wp2_with fail
            go_roundw
            case rel => exact ⟨k + 1, _, by omega, by go_num, hst2.out.symm, rfl, rfl, rfl, rfl, hb⟩
            case measure => simp [intOf]; omega
      · obtain rfl : k = x.size / 8 + 1 := by omega
        have h3 : ¬ 8 * ((x.size / 8 + 1 : Nat) : Int) ≤ (x.size : Int) / 8 * 8 := by omega
        obtain ⟨ta, tb, tc, td⟩ := S
        clear hsucc
        obtain ⟨y, hy⟩ : ∃ y, bits BinOp.xor IntKind.u64 tc 255 = y := ⟨_, rfl⟩
        obtain ⟨u, hu⟩ : ∃ u, siter 4 ⟨ta, tb, y, td⟩ = u := ⟨_, rfl⟩
        have M := fun W => refmix ⟨ta, tb, y, td⟩ 4 W (by omega)
        rw [hu] at M
        obtain ⟨ua, ub, uc, ud⟩ := u
        have hE : sipEnd ⟨ta, tb, tc, td⟩ = xorU (xorU (xorU ua ub) uc) ud := by
          show xorU (xorU (xorU (siter 4 ⟨ta, tb, bits BinOp.xor IntKind.u64 tc 255, td⟩).a (siter 4 ⟨ta, tb, bits BinOp.xor IntKind.u64 tc 255, td⟩).b) (siter 4 ⟨ta, tb, bits BinOp.xor IntKind.u64 tc 255, td⟩).c) (siter 4 ⟨ta, tb, bits BinOp.xor IntKind.u64 tc 255, td⟩).d = _
          rw [hy, hu]
        replace hE := Lib.hid hE
        replace M := Lib.hid M
        replace hu := Lib.hid hu
        go_wp2_with fail
        refine (M.out _).mono ?_
        rintro e w1 ⟨rfl, hb1⟩
        have hb2 := below_call hb hb.size hb1
        have hb3 : Below w.heap.size w (w1.alloc (.cells #[.int .u64 ua, .int .u64 ub, .int .u64 uc, .int .u64 ud] 173)) := hb2.alloc hb2.size _
        go_wp2_with fail
        go_ret
        rw [← hS.out, hE.out]
        exact ⟨rfl, hb3⟩
end Go.Proofs.Ytdkcjfcjckpjcaa
