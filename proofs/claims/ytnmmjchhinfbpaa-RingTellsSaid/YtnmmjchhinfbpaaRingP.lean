/- ring: the document's again. -/
import Derived.Test.YtnmmjchhinfbpaaRingO
import Derived.Laws.StructEq
namespace Go.Proofs.Ytnmmjchhinfbpaa
open Go Go.RowKit Go.Deep

theorem qeql (xa xi ya yi : Int) (w : World) : (binOp .eql 88 (.agg #[.int .u64 xa, .int .i64 xi]) (.agg #[.int .u64 ya, .int .i64 yi])).run Try.prog w = .ok (.bool (xa == ya && xi == yi)) w := by
  have u3 := Try.underlying3
  have a3 := Try.isAgg3
  have z3 := Try.sizeOf3
  have u4 := Try.underlying23
  have a4 := Try.isAgg23
  have z4 := Try.sizeOf23
  have hS : Try.prog.underlying 88 = some (.struct (Try.prog.fieldsOf 88)) := by kernel_rfl
  have hp : Try.prog.stoodInHeld 88 = false := by kernel_rfl
  rw [run_eql_struct, show (10000 : Nat) = 9999 + 1 from rfl, run_equalIn_agg w 9999 88 _ _ hS hp]
  simp only [Program.fieldsOf, Try.underlying88]
  go_simp
  by_cases h1 : xa = ya <;> by_cases h2 : xi = yi <;> simp [h1, h2]
set_option maxRecDepth 100000 in
set_option maxHeartbeats 8000000 in
theorem refagain51 (P : List Pt) (A : Option Addr) (c i : Nat) (w : World) (hr : Reads w w.heap.size 2 A P.length (P.flatMap qcell)) (hi : i < P.length) (hl : P.length ≤ 65536) :
    Calls Try.prog 40 #[.slice A P.length c, .int .i64 (i : Nat)] w fun e w' => e = .returned (.bool (decide (P.getD i (0, 0) ∈ P.take i))) ∧ Below w.heap.size w w' := by
  have hii : (i : Int) < (P.length : Int) := by omega
  obtain ⟨r, hrr⟩ : ∃ r, decide (P.getD i (0, 0) ∈ P.take i) = r := ⟨_, rfl⟩
  rw [hrr]
  replace hrr := Lib.hid hrr
  replace hr := Lib.hid hr
  go_enter Try.func40, Try.ntmps40
  go_wp2_with fail
  go_loopw [5] (fun ix wr => ∃ k : Nat, k ≤ i ∧ ix = .int .i64 (k : Nat) ∧ (∀ j, j < k → P.getD j (0, 0) ≠ P.getD i (0, 0)) ∧ Below w.heap.size w wr) (fun ix _ => i - (intOf ix).toNat)
  case atStart => exact ⟨0, by omega, rfl, by omega, Below.refl _ _⟩
  case round =>
    obtain ⟨k, hk, rfl, hall, hb⟩ := hrel
    replace hall := Lib.hid hall
    by_cases hlt : k < i
    · have hlti : (k : Int) < (i : Int) := by omega
      have hkl : (k : Int) < (P.length : Int) := by omega
      obtain ⟨ad, rfl, hbl, c0, c1⟩ := qt_at (hr.out.below hb) (show k < P.length by omega)
      obtain ⟨ad', e', -, d0, d1⟩ := qt_at (hr.out.below hb) hi
      obtain rfl : ad = ad' := by simpa using e'
      obtain ⟨xi, xa, hx⟩ : ∃ xi xa, P.getD k (0, 0) = (xi, xa) := ⟨_, _, rfl⟩
      obtain ⟨yi, ya, hy⟩ : ∃ yi ya, P.getD i (0, 0) = (yi, ya) := ⟨_, _, rfl⟩
      rw [hx] at c0 c1
      rw [hy] at d0 d1
      dsimp only at c0 c1 d0 d1
      replace hx := Lib.hid hx
      replace hy := Lib.hid hy
      clear e'
      have hE := fun W => qeql xa xi ya yi W
      obtain ⟨bq, hbq⟩ : ∃ bq, (xa == ya && xi == yi) = bq := ⟨_, rfl⟩
      rw [hbq] at hE
      replace hbq := Lib.hid hbq
      have hG : Try.prog.eqGuardType Try.prog.depth 88 = false := by kernel_rfl
      go_wp2_with fail
      go_quiet (fail)
      clear hE hG
      have hb2 := below_drewN hb nq
      generalize wr.drewN nq = w2 at *
      clear c0 c1 d0 d1
      have hnew : (xa ≠ ya ∨ xi ≠ yi) → ∀ j, j < k + 1 → P.getD j (0, 0) ≠ P.getD i (0, 0) := fun hd j hj => by
        by_cases ej : j = k
        · subst ej
          rw [hx.out, hy.out]
          intro e
          injection e with e1 e2
          rcases hd with h | h
          · exact h e2
          · exact h e1
        · exact hall.out j (by omega)
      replace hnew := Lib.hid hnew
      cases bq
      · have hd : xa ≠ ya ∨ xi ≠ yi := by
          have := hbq.out
          by_cases h1 : xa = ya
          · by_cases h2 : xi = yi
            · simp [h1, h2] at this
            · exact .inr h2
          · exact .inl h1
        have hn2 := hnew.out hd
        replace hn2 := Lib.hid hn2
        replace hd := Lib.hid hd
        go_wp2_with fail
        go_roundw
        case rel => exact ⟨k + 1, by omega, by go_num, hn2.out, hb2⟩
        case measure => simp [intOf]; omega
      · have hrt : r = true := by
          have := hbq.out
          simp at this
          rw [← hrr.out, hy.out, ← this.1, ← this.2, ← hx.out]
          refine decide_eq_true ?_
          rw [List.getD_eq_getElem?_getD, List.getElem?_eq_getElem (by omega)]
          exact List.mem_take_iff_getElem.2 ⟨k, by omega, rfl⟩
        subst hrt
        clear hrr
        go_wp2_with fail
        go_ret
        exact ⟨rfl, hb2⟩
    · obtain rfl : k = i := by omega
      have hlti : ¬ (k : Int) < (k : Int) := by omega
      have hf : r = false := by
        rw [← hrr.out]
        refine decide_eq_false fun hm => ?_
        obtain ⟨j, hj, e⟩ := List.mem_take_iff_getElem.1 hm
        have hjl : j < P.length := by omega
        exact hall.out j (by omega) (by rw [List.getD_eq_getElem?_getD, List.getElem?_eq_getElem hjl]; exact e)
      subst hf
      clear hrr
      go_wp2_with fail
      go_ret
      exact ⟨rfl, hb⟩
end Go.Proofs.Ytnmmjchhinfbpaa
