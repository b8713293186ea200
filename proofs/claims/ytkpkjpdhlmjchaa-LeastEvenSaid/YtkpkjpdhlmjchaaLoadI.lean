/- load: the document's Clear and Total; what any steps leave. -/
import Derived.Test.YtkpkjpdhlmjchaaLoadH
import Derived.Test.YtkpkjpdhlmjchaaTwoI
namespace Go.Proofs.Ytkpkjpdhlmjchaa
open Go Go.RowKit Go.Deep Go.Maps Go.ChangeMaps

set_option maxRecDepth 100000 in
theorem refload_clear (g : Nat) (M : LM) (id : Int) (w : World) (h : RLoadAt w g M) (hs : lmSorted M) (hl : M.length ≤ 100000) :
    Calls Try.prog 55 #[.pointer (some ⟨g, 0, none⟩), .int .i64 id] w fun e w' => e = .returned (.tuple #[]) ∧ RLoadAt w' g (lmDel M id) ∧ Chg (· = g) w w' := by
  have S := refload_set g M id 0 w h hl
  rw [refSet_eq M id 0 hs, if_pos rfl] at S
  replace S := Lib.hid S
  clear h
  go_enter Try.func55, Try.ntmps55
  go_wp2_with fail
  refine S.out.mono ?_
  rintro e w1 ⟨rfl, h1, h2⟩
  go_wp2_with fail
  go_end0
  exact ⟨rfl, h1, h2⟩
set_option maxRecDepth 100000 in
set_option maxHeartbeats 2000000 in
theorem refload_total (g : Nat) (M : LM) (w : World) (h : RLoadAt w g M) (hp : lmPos M) (hl : M.length ≤ 100000) :
    Calls Try.prog 57 #[.pointer (some ⟨g, 0, none⟩)] w fun e w' => e = .returned (.int .i64 (lmSum M)) ∧ w = w' := by
  obtain ⟨A, c, B, d, h1, h2, h3⟩ := h
  have c0 := h1.cell 0
  have c1 := h1.cell 1
  simp at c0 c1
  clear h1 h2
  go_enter Try.func57, Try.ntmps57
  go_wp2_with fail
  go_loop [3, 4] (fun n i => ∃ k : Nat, k ≤ M.length ∧ i = .int .i64 (k : Nat) ∧ n = .int .i64 (lmSum (M.take k))) (fun _ i => M.length - (intOf i).toNat)
  case atStart => exact ⟨0, by omega, rfl, by simp [lmSum]⟩
  case round =>
    obtain ⟨k, hk, rfl, rfl⟩ := hrel
    by_cases hlt : k < M.length
    · have hlti : (k : Int) < (M.length : Int) := by omega
      obtain ⟨ae, rfl, hbl2, hd⟩ := h3.int_at (i := k) (by simpa using hlt)
      rw [getD_snd] at hd
      obtain ⟨x, hx⟩ : ∃ x, M[k]? = some x := ⟨_, List.getElem?_eq_getElem hlt⟩
      have hst := lmSum_take M k x hx
      have hbd := lmSum_bd M hp k hk
      have hbx := hp x (List.mem_of_getElem? hx)
      have e : M.getD k (0, 0) = x := by simp [List.getD_eq_getElem?_getD, hx]
      rw [e] at hd
      obtain ⟨xi, xn⟩ := x
      dsimp only at *
      generalize lmSum (M.take k) = s at *
      obtain ⟨hb1, hb2⟩ := hbd
      obtain ⟨hb3, hb4⟩ := hbx
      replace hst := Lib.hid hst
      replace e := Lib.hid e
      replace hx := Lib.hid hx
      clear h3
      go_wp2_with fail
      go_round
      case rel => exact ⟨k + 1, by omega, by go_num, by rw [hst.out]⟩
      case measure => simp [intOf]; omega
    · obtain rfl : k = M.length := by omega
      have hlti : ¬ (M.length : Int) < (M.length : Int) := by omega
      rw [List.take_length]
      go_wp2_with fail
      go_ret
      exact ⟨rfl, rfl⟩

def lpStep (M : LM) (s : Stp) : LM := if s.kind = 3 then lmDel M s.id else lmAdd M s.id s.n
def lpRun (l : List Stp) : LM := l.foldl lpStep []
theorem lpRun_succ (l : List Stp) (k : Nat) (s : Stp) (h : l[k]? = some s) : lpRun (l.take (k + 1)) = lpStep (lpRun (l.take k)) s := by
  obtain ⟨hk, rfl⟩ := List.getElem?_eq_some_iff.1 h
  unfold lpRun
  rw [List.take_succ_eq_append_getElem hk, List.foldl_append]
  rfl
theorem lmDel_wf {M : LM} (h : lmWf M) (id : Int) : lmWf (lmDel M id) := fun x hx => h x (List.mem_filter.1 hx).1
theorem lmAdd_wf {M : LM} (h : lmWf M) {id n : Int} (hi : (Lit.int .i64 id).wf = true) : lmWf (lmAdd M id n) := by
  unfold lmAdd
  split
  · exact h
  · split
    · exact lmDel_wf h id
    · intro x hx
      rcases lmIns_mem hx with rfl | hx
      · exact hi
      · exact lmDel_wf h id x hx
structure LpGood (M : LM) (n : Nat) : Prop where
  pos : lmPos M
  sorted : lmSorted M
  wf : lmWf M
  len : M.length ≤ n
theorem lpGood_step {M : LM} {n : Nat} (h : LpGood M n) {s : Stp} (hs : stpWf s) : LpGood (lpStep M s) (n + 1) := by
  unfold lpStep
  have h1 := h.len
  split
  · exact ⟨lmDel_pos h.pos _, lmDel_sorted h.sorted _, lmDel_wf h.wf _, by have := lmDel_length M s.id; omega⟩
  · exact ⟨lmAdd_pos h.pos _ _, lmAdd_sorted h.sorted _ _, lmAdd_wf h.wf hs, by have := lmAdd_length M s.id s.n; omega⟩
theorem lpGood (l : List Stp) (hw : ∀ s ∈ l, stpWf s) : ∀ k, k ≤ l.length → LpGood (lpRun (l.take k)) k
  | 0, _ => ⟨fun x hx => by simp [lpRun] at hx, by simp [lpRun, lmSorted], fun x hx => by simp [lpRun] at hx, by simp [lpRun]⟩
  | k + 1, h => by
    rw [lpRun_succ l k l[k] (List.getElem?_eq_getElem (by omega))]
    exact lpGood_step (lpGood l hw k (by omega)) (hw _ (List.getElem_mem (by omega)))
end Go.Proofs.Ytkpkjpdhlmjchaa
