/- wheel: the document's Due and Unset. -/
import Derived.Test.YtfpepgeaaadpdaaWheelM
namespace Go.Proofs.Ytfpepgeaaadpdaa
open Go Go.RowKit Go.Deep Go.Maps Go.ChangeMaps

section
variable {w w' : World} {g : Nat} {G now : Int} {M : LM} {A : Option Addr} {c : Nat} {B : Option Addr} {d : Nat}
set_option maxHeartbeats 1000000 in
theorem refwheel_due (h : RWhAt w g G now M A c B d) (hl : M.length ≤ 100000) (id : Int) : Calls Try.prog 13 #[.pointer (some ⟨g, 0, none⟩), .int .i64 id] w fun e w' => e = .returned (.tuple #[.int .i64 (lmGet M id), .bool (lmHas M id)]) ∧ w = w' := by
  obtain ⟨c0, c1, c2, c3⟩ := h.cells
  replace h := Lib.hid h
  go_enter Try.func13, Try.ntmps13
  go_wp2_with fail
  go_loop [6] (fun i => ∃ k : Nat, k ≤ M.length ∧ i = .int .i64 (k : Nat) ∧ (∀ j, j < k → (M.getD j (0, 0)).1 ≠ id) ∧ lmHas (M.take k) id = false) (fun i => M.length - (intOf i).toNat)
  case atStart => exact ⟨0, by omega, rfl, fun j hj => absurd hj (by omega), rfl⟩
  case round =>
    obtain ⟨k, hk, rfl, hall, hhs⟩ := hrel
    replace hall := Lib.hid hall
    by_cases hlt : k < M.length
    · have hlti : (k : Int) < (M.length : Int) := by omega
      obtain ⟨ad, ae, hA, hB, hc, hd⟩ := rw_at h.out hlt
      subst hA hB
      have hst := lmHas_take (M := M) (id := id) hlt
      have hge : M.getD k (0, 0) = M[k] := by simp [List.getD_eq_getElem?_getD, hlt]
      have hmem : M[k] ∈ M := List.getElem_mem hlt
      obtain ⟨x, hx⟩ : ∃ x, M[k] = x := ⟨_, rfl⟩
      rw [hhs] at hst
      rw [hx] at hc hd hst hge hmem
      by_cases he : x.1 = id
      · have hfin := lmGet_hit hall.out hlt (by rw [hge, he])
        have hfin2 : lmHas M id = true := lmHas_iff.2 ⟨x, hmem, he⟩
        rw [hge] at hfin
        replace hfin := Lib.hid hfin
        replace hfin2 := Lib.hid hfin2
        have heb : (x.1 == id) = true := by simpa using he
        replace hx := Lib.hid hx
        replace he := Lib.hid he
        clear hst hge hhs hmem
        go_wp2_with fail
        go_ret2
        exact ⟨by rw [hfin.out, hfin2.out]; rfl, rfl⟩
      · have heb : (x.1 == id) = false := by simpa using he
        rw [heb] at hst
        replace hx := Lib.hid hx
        replace he := Lib.hid he
        replace hst := Lib.hid hst
        replace hge := Lib.hid hge
        clear hhs hmem
        go_wp2_with fail
        go_round
        case rel => exact ⟨k + 1, by omega, by go_num, fun i hi => by
          rcases Nat.lt_succ_iff_lt_or_eq.1 hi with h | rfl
          · exact hall.out i h
          · rw [hge.out]; exact he.out, hst.out⟩
        case measure => simp [intOf]; omega
    · obtain rfl : k = M.length := by omega
      have hlti : ¬ (M.length : Int) < (M.length : Int) := by omega
      have hfin := Lib.hid (lmGet_miss hall.out)
      rw [List.take_length] at hhs
      replace hhs := Lib.hid hhs
      go_wp2_with fail
      go_ret2
      exact ⟨by rw [hfin.out, hhs.out]; rfl, rfl⟩
set_option maxRecDepth 100000 in
set_option maxHeartbeats 4000000 in
theorem refwheel_unset (h : RWhAt w g G now M A c B d) (hl : M.length ≤ 100000) (id : Int) : Calls Try.prog 11 #[.pointer (some ⟨g, 0, none⟩), .int .i64 id] w fun e w' => e = .returned (.bool (lmHas M id)) ∧
    ∃ A' c' B' d', RWhAt w' g G now (lmDel M id) A' c' B' d' ∧ (∀ b, InB A' b ∨ InB B' b → w.heap.size ≤ b) ∧ Chg (· = g) w w' := by
  have hglt := h.blk.lt
  replace h := Lib.hid h
  go_enter Try.func11, Try.ntmps11
  go_wp2_with fail
  go_loopw [5, 6, 7, 8] (fun s t dn i wr => ∃ (k : Nat) (P : Option Addr) (p : Nat) (Q : Option Addr) (q : Nat), k ≤ M.length ∧ i = .int .i64 (k : Nat) ∧ s = .slice P (lmDel (M.take k) id).length p ∧ t = .slice Q (lmDel (M.take k) id).length q ∧ dn = .bool (lmHas (M.take k) id) ∧ Two wr w.heap.size P p (pre2 (lmDel (M.take k) id)) Q q (post2 (lmDel (M.take k) id)) ∧ Below w.heap.size w wr) (fun _ _ _ i _ => M.length - (intOf i).toNat)
  case atStart => exact ⟨0, none, 0, none, 0, by omega, rfl, rfl, rfl, rfl, ⟨OwnA.nil _ _, OwnA.nil _ _, fun b hb => absurd hb inB_none⟩, Below.refl _ _⟩
  case round =>
    obtain ⟨k, P, p, Q, q, hk, rfl, rfl, rfl, rfl, hT, hb⟩ := hrel
    have hR := h.out.call hb
    obtain ⟨c0, c1, c2, c3⟩ := hR.cells
    have hz := hb.size
    have hol : (lmDel (M.take k) id).length ≤ 100000 := Nat.le_trans (lmDel_length _ _) (by rw [List.length_take]; omega)
    by_cases hlt : k < M.length
    · have hlti : (k : Int) < (M.length : Int) := by omega
      obtain ⟨ad, ae, hA, hB, hc0, hd0⟩ := rw_at h.out hlt
      subst hA hB
      have hst := lmHas_take (M := M) (id := id) hlt
      have hst2 := lmDel_take (M := M) (id := id) hlt
      obtain ⟨x, hx⟩ : ∃ x, M[k] = x := ⟨_, rfl⟩
      rw [hx] at hc0 hd0 hst hst2
      obtain ⟨-, -, hc, hd⟩ := rw_facts h.out hb hc0 hd0
      generalize lmDel (M.take k) id = out at *
      generalize lmHas (M.take k) id = bo at *
      clear hx hR
      replace hc0 := Lib.hid hc0
      replace hd0 := Lib.hid hd0
      by_cases he : x.1 = id
      · have heb : (x.1 == id) = true := by simpa using he
        rw [if_pos he] at hst2
        rw [heb, Bool.or_true] at hst
        replace hst := Lib.hid hst
        replace hst2 := Lib.hid hst2
        replace he := Lib.hid he
        go_wp2_with fail
        go_roundw
        case rel => exact ⟨k + 1, P, p, Q, q, by omega, by go_num, by rw [hst2.out], by rw [hst2.out], by rw [hst.out], by rw [hst2.out]; exact hT, hb⟩
        case measure => simp [intOf]; omega
      · have heb : (x.1 == id) = false := by simpa using he
        rw [if_neg he] at hst2
        rw [heb, Bool.or_false] at hst
        replace hst := Lib.hid hst
        replace hst2 := Lib.hid hst2
        replace he := Lib.hid he
        go_wp2_with (first
          | (at_builtin; (refine wpList_push_int rfl (.tmp 27) (.tmp 35) rfl w.heap.size P p (pre2 out) (out.length) (by simp [pre2_len]) rfl hT.fst _ rfl rfl (by simp [pre2_len]; omega) (by omega) ?_; intro P3 p3 w3 ho3 hp3; have hT3 := hT.push1 ho3 hp3; have hb3 := hp3.below hb (by omega) (fun b hb => (hT.fst.block hb).1); have hz3 := hb3.size; clear c0 c1 c2 c3 hc hd; obtain ⟨c2, c3, hc, hd⟩ := rw_facts h.out hb3 hc0.out hd0.out))
          | (at_builtin; (refine wpList_push_int rfl (.tmp 37) (.tmp 45) rfl w.heap.size Q q (post2 out) (out.length) (by simp [post2_len]) rfl hT3.snd _ rfl rfl (by simp [post2_len]; omega) (by omega) ?_; intro P4 p4 w4 ho4 hp4; have hT4 := hT3.push2 ho4 hp4; have hb4 := hp4.below hb3 (by omega) (fun b hb => (hT3.snd.block hb).1); have hz4 := hb4.size; clear c2 c3 hc hd; obtain ⟨c2, c3, hc, hd⟩ := rw_facts h.out hb4 hc0.out hd0.out)))
        go_roundw
        case rel => exact ⟨k + 1, P3, p3, P4, p4, by omega, by go_num, by rw [hst2.out]; simp, by rw [hst2.out]; simp, by rw [hst.out], by rw [hst2.out, pre2_snoc, post2_snoc]; exact hT4, hb4⟩
        case measure => simp [intOf]; omega
    · obtain rfl : k = M.length := by omega
      have hlti : ¬ (M.length : Int) < (M.length : Int) := by omega
      rw [List.take_length] at hT ⊢
      have q2 := hR.blk.frozen 2
      have q3 := hR.blk.frozen 3
      have hB := hR.blk
      replace hB := Lib.hid hB
      replace hR := Lib.hid hR
      go_wp2_with fail
      have hP : ¬ InB P g := fun h => by have := (hT.fst.block h).1; omega
      have hQ : ¬ InB Q g := fun h => by have := (hT.snd.block h).1; omega
      have hN : RWhAt ((wr.setCell ⟨g, 2, none⟩ (.slice P (lmDel M id).length p)).setCell ⟨g, 3, none⟩ (.slice Q (lmDel M id).length q)) g G now (lmDel M id) P p Q q :=
        ⟨by simpa using (hB.out.set_ 2 (.slice P (lmDel M id).length p)).set_ 3 (.slice Q (lmDel M id).length q), ⟨(hT.base (Nat.zero_le _)).fst.far (p := ⟨g, 2, none⟩) hP _ |>.far (p := ⟨g, 3, none⟩) hP _, (hT.base (Nat.zero_le _)).snd.far (p := ⟨g, 2, none⟩) hQ _ |>.far (p := ⟨g, 3, none⟩) hQ _, hT.apart⟩, hP, hQ⟩
      have hC : Chg (· = g) w ((wr.setCell ⟨g, 2, none⟩ (.slice P (lmDel M id).length p)).setCell ⟨g, 3, none⟩ (.slice Q (lmDel M id).length q)) := Chg.setCell (F := (· = g)) (p := ⟨g, 3, none⟩) (Chg.setCell (F := (· = g)) (p := ⟨g, 2, none⟩) (Chg.of_below hb) (fun _ => rfl) _) (fun _ => rfl) _
      have hnb : ∀ b, InB P b ∨ InB Q b → w.heap.size ≤ b := fun b hb => by
        rcases hb with hb | hb
        · exact (hT.fst.block hb).1
        · exact (hT.snd.block hb).1
      replace hN := Lib.hid hN
      replace hC := Lib.hid hC
      replace hnb := Lib.hid hnb
      go_ret
      exact ⟨rfl, P, p, Q, ⟨q, hN.out⟩, hnb.out, hC.out⟩
end
end Go.Proofs.Ytfpepgeaaadpdaa
