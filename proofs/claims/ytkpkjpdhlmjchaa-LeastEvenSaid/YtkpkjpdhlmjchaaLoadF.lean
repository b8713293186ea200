/- load: IDs, Total, Clear; loads that nobody made. -/
import Derived.Test.YtkpkjpdhlmjchaaKeys
namespace Go.Proofs.Ytkpkjpdhlmjchaa
open Go Go.RowKit Go.Deep

set_option maxRecDepth 100000 in
theorem load_given_nil (w : World) : Calls Try.prog 86 #[.pointer none] w fun e w' => e = .returned (.bool false) ∧ w = w' := by
  go_enter Try.func86, Try.ntmps86
  go_wp2_with fail
  go_ret
  exact ⟨rfl, rfl⟩
set_option maxRecDepth 100000 in
theorem load_given_plain (g : Nat) (w : World) (h : Blk w g 140 #[.map none]) : Calls Try.prog 86 #[.pointer (some ⟨g, 0, none⟩)] w fun e w' => e = .returned (.bool false) ∧ w = w' := by
  have c0 := h.cell 0
  simp at c0
  have hne := fun (W : World) => run_neq_map_nil (P := Try.prog) W 138 3 3 none Try.underlying138
  go_enter Try.func86, Try.ntmps86
  go_wp2_with fail
  go_ret
  exact ⟨rfl, rfl⟩
theorem load_ids (g b : Nat) (M : LM) (w : World) (h : LoadAt w g b M) (hs : lmSorted M) (hl : M.length ≤ 100000) : Calls Try.prog 58 #[.pointer (some ⟨g, 0, none⟩)] w fun e w' => ∃ A c, e = .returned (.slice A M.length c) ∧ Reads w' w'.heap.size 1 A M.length ((M.map Prod.fst).map (.int .i64)) ∧ Below w.heap.size w w' := by
  have c0 := h.1.cell 0
  simp at c0
  have G := Lib.hid (load_given g b M w h)
  have S := Lib.hid (sorted_keys h.2 hs hl)
  clear h
  go_enter Try.func58, Try.ntmps58
  go_wp2_with fail
  refine G.out.mono ?_
  rintro e w1 ⟨rfl, rfl⟩
  go_wp2_with fail
  refine (keys_any _ _).mono ?_
  rintro e w1 ⟨rfl, rfl⟩
  go_wp2_with fail
  refine S.out.mono ?_
  rintro e w1 ⟨A, c, rfl, hr, hb⟩
  go_wp2_with fail
  go_ret
  exact ⟨A, c, rfl, hr, hb⟩
theorem load_ids_nil (w : World) : Calls Try.prog 58 #[.pointer none] w fun e w' => e = .returned (.slice none 0 0) ∧ w = w' := by
  go_enter Try.func58, Try.ntmps58
  go_wp2_with (go_at_call 86; with_reducible refine (load_given_nil _).mono ?_; rintro e w1 ⟨rfl, rfl⟩)
  go_ret
  exact ⟨rfl, rfl⟩
theorem load_ids_plain (g : Nat) (w : World) (h : Blk w g 140 #[.map none]) : Calls Try.prog 58 #[.pointer (some ⟨g, 0, none⟩)] w fun e w' => e = .returned (.slice none 0 0) ∧ w = w' := by
  have G := Lib.hid (load_given_plain g w h)
  go_enter Try.func58, Try.ntmps58
  go_wp2_with (go_at_call 86; with_reducible refine G.out.mono ?_; rintro e w1 ⟨rfl, rfl⟩)
  go_ret
  exact ⟨rfl, rfl⟩
theorem load_add_nil (id n : Int) (w : World) : Calls Try.prog 36 #[.pointer none, .int .i64 id, .int .i64 n] w fun e w' => e = .returned (.tuple #[]) ∧ w = w' := by
  go_enter Try.func36, Try.ntmps36
  go_wp2_with (go_at_call 86; with_reducible refine (load_given_nil _).mono ?_; rintro e w1 ⟨rfl, rfl⟩)
  refine bodyPost_ret (results_none rfl _ _ _) rfl ?_
  exact ⟨rfl, rfl⟩
theorem load_add_plain (g : Nat) (id n : Int) (w : World) (h : Blk w g 140 #[.map none]) : Calls Try.prog 36 #[.pointer (some ⟨g, 0, none⟩), .int .i64 id, .int .i64 n] w fun e w' => e = .returned (.tuple #[]) ∧ w = w' := by
  have G := Lib.hid (load_given_plain g w h)
  go_enter Try.func36, Try.ntmps36
  go_wp2_with (go_at_call 86; with_reducible refine G.out.mono ?_; rintro e w1 ⟨rfl, rfl⟩)
  refine bodyPost_ret (results_none rfl _ _ _) rfl ?_
  exact ⟨rfl, rfl⟩
theorem load_clear_nil (id : Int) (w : World) : Calls Try.prog 54 #[.pointer none, .int .i64 id] w fun e w' => e = .returned (.tuple #[]) ∧ w = w' := by
  go_enter Try.func54, Try.ntmps54
  go_wp2_with (go_at_call 86; with_reducible refine (load_given_nil _).mono ?_; rintro e w1 ⟨rfl, rfl⟩)
  go_end0
  exact ⟨rfl, rfl⟩
theorem load_clear_plain (g : Nat) (id : Int) (w : World) (h : Blk w g 140 #[.map none]) : Calls Try.prog 54 #[.pointer (some ⟨g, 0, none⟩), .int .i64 id] w fun e w' => e = .returned (.tuple #[]) ∧ w = w' := by
  have G := Lib.hid (load_given_plain g w h)
  go_enter Try.func54, Try.ntmps54
  go_wp2_with (go_at_call 86; with_reducible refine G.out.mono ?_; rintro e w1 ⟨rfl, rfl⟩)
  go_end0
  exact ⟨rfl, rfl⟩
theorem load_get_nil (id : Int) (w : World) : Calls Try.prog 35 #[.pointer none, .int .i64 id] w fun e w' => e = .returned (.int .i64 0) ∧ w = w' := by
  go_enter Try.func35, Try.ntmps35
  go_wp2_with (go_at_call 86; with_reducible refine (load_given_nil _).mono ?_; rintro e w1 ⟨rfl, rfl⟩)
  go_ret
  exact ⟨rfl, rfl⟩

def lmSum (M : LM) : Int := (M.map Prod.snd).sum
theorem lmSum_take (M : LM) (k : Nat) (x : Int × Int) (h : M[k]? = some x) : lmSum (M.take (k + 1)) = lmSum (M.take k) + x.2 := by
  obtain ⟨hk, rfl⟩ := List.getElem?_eq_some_iff.1 h
  unfold lmSum
  rw [List.take_succ_eq_append_getElem hk, List.map_append, List.sum_append]
  simp
theorem lmSum_bd (M : LM) (hp : lmPos M) : ∀ k, k ≤ M.length → 0 ≤ lmSum (M.take k) ∧ lmSum (M.take k) ≤ k * 1099511627776
  | 0, _ => by simp [lmSum]
  | k + 1, h => by
    have ih := lmSum_bd M hp k (by omega)
    have hx := hp M[k] (List.getElem_mem (by omega))
    rw [lmSum_take M k M[k] (List.getElem?_eq_getElem (by omega))]
    omega
theorem lmGet_at {M : LM} (hs : lmSorted M) {k : Nat} {x : Int × Int} (h : M[k]? = some x) : lmGet M x.1 = x.2 := by
  obtain ⟨hk, rfl⟩ := List.getElem?_eq_some_iff.1 h
  unfold lmGet
  have : M.find? (fun y => y.1 == M[k].1) = some M[k] := by
    rw [List.find?_eq_some_iff_getElem]
    refine ⟨by simp, k, hk, rfl, fun j hj => ?_⟩
    have := (List.pairwise_iff_getElem.1 hs) j k (by omega) hk hj
    simp; omega
  rw [this]
def lmWf (M : LM) : Prop := ∀ x ∈ M, (Lit.int .i64 x.1).wf = true
set_option maxRecDepth 100000 in
set_option maxHeartbeats 2000000 in
theorem load_total (g b : Nat) (M : LM) (w : World) (h : LoadAt w g b M) (hs : lmSorted M) (hp : lmPos M) (hw : lmWf M) (hl : M.length ≤ 100000) : Calls Try.prog 37 #[.pointer (some ⟨g, 0, none⟩)] w fun e w' => e = .returned (.int .i64 (lmSum M)) ∧ Below w.heap.size w w' := by
  have I := Lib.hid (load_ids g b M w h hs hl)
  go_enter Try.func37, Try.ntmps37
  go_wp2_with fail
  refine I.out.mono ?_
  rintro e w1 ⟨A, c, rfl, hr, hb⟩
  have h1 := h.call hb
  have c0 := h1.1.cell 0
  simp at c0
  clear h I
  go_wp2_with fail
  go_loopw [3, 9] (fun n i wr => ∃ k : Nat, k ≤ M.length ∧ i = .int .i64 (k : Nat) ∧ n = .int .i64 (lmSum (M.take k)) ∧ w1 = wr) (fun _ i _ => M.length - (intOf i).toNat)
  case atStart => exact ⟨0, by omega, rfl, by simp [lmSum], rfl⟩
  case round =>
    obtain ⟨k, hk, rfl, rfl, rfl⟩ := hrel
    by_cases hlt : k < M.length
    · have hlti : (k : Int) < (M.length : Int) := by omega
      obtain ⟨x, hx⟩ : ∃ x, M[k]? = some x := ⟨_, List.getElem?_eq_getElem hlt⟩
      have hst := lmSum_take M k x hx
      have hbd := lmSum_bd M hp k hk
      have hbx := hp x (List.mem_of_getElem? hx)
      have hlk := h1.2.look (hw x (List.mem_of_getElem? hx))
      rw [lmGet_at hs hx] at hlk
      have hc := hr.2 (by omega)
      obtain ⟨ad, rfl, hbl, hcell⟩ := hc
      have c1 := hcell k (.int .i64 x.1) (by rw [List.getElem?_map, List.getElem?_map, hx]; rfl)
      obtain ⟨xi, xn⟩ := x
      dsimp only at *
      generalize lmSum (M.take k) = s at *
      obtain ⟨hb1, hb2⟩ := hbd
      obtain ⟨hb3, hb4⟩ := hbx
      replace hst := Lib.hid hst
      replace hcell := Lib.hid hcell
      replace hx := Lib.hid hx
      go_wp2_with fail
      go_roundw
      case rel => exact ⟨k + 1, by omega, by go_num, by rw [hst.out], (by trivial)⟩
      case measure => simp [intOf]; omega
    · obtain rfl : k = M.length := by omega
      have hlti : ¬ (M.length : Int) < (M.length : Int) := by omega
      rw [List.take_length]
      go_wp2_with fail
      go_ret
      exact ⟨rfl, hb⟩
theorem load_total_plain (g : Nat) (w : World) (h : Blk w g 140 #[.map none]) : Calls Try.prog 37 #[.pointer (some ⟨g, 0, none⟩)] w fun e w' => e = .returned (.int .i64 0) ∧ w = w' := by
  have I := Lib.hid (load_ids_plain g w h)
  go_enter Try.func37, Try.ntmps37
  go_wp2_with fail
  refine I.out.mono ?_
  rintro e w1 ⟨rfl, rfl⟩
  go_wp2_with fail
  refine wp_loop_rounds 1 ?_
  rw [rounds_succ]
  go_wp2_with fail
  go_ret
  exact ⟨rfl, rfl⟩

set_option maxRecDepth 100000 in
set_option maxHeartbeats 4000000 in
theorem awake25 (w : World) : Calls Try.prog 53 #[] w fun e w' => e = .returned (.bool true) ∧ Below w.heap.size w w' := by
  have N := Lib.hid load_new
  have m1 : lmAdd [] 7 3 = [(7, 3)] := by decide
  have m2 : lmAdd [(7, 3)] 7 (-1) = [(7, 2)] := by decide
  have m3 : lmAdd [(7, 2)] 8 (-1) = [(7, 2)] := by decide
  have A1 := fun g b W h => load_add g b [] 7 3 W h (by decide) (fun x hx => by simp at hx) (by simp)
  have A2 := fun g b W h => load_add g b [(7, 3)] 7 (-1) W h (by decide) (fun x hx => by simp at hx; subst hx; simp) (by simp)
  have A3 := fun g b W h => load_add g b [(7, 2)] 8 (-1) W h (by decide) (fun x hx => by simp at hx; subst hx; simp) (by simp)
  rw [m1] at A1
  rw [m2] at A2
  rw [m3] at A3
  have LS := fun W => less_any 3 2 1 2 1 2 W
  have ls : lessB 3 2 1 2 1 2 = true := by decide
  rw [ls] at LS
  have G7 := fun g b W h => load_get g b [(7, 2)] 7 W h (by decide)
  have G8 := fun g b W h => load_get g b [(7, 2)] 8 W h (by decide)
  have g7 : lmGet [(7, 2)] 7 = 2 := by decide
  have g8 : lmGet [(7, 2)] 8 = 0 := by decide
  rw [g7] at G7
  rw [g8] at G8
  have TT := fun g b W h => load_total g b [(7, 2)] W h (by simp [lmSorted]) (fun x hx => by simp at hx; subst hx; simp) (fun x hx => by simp at hx; subst hx; decide) (by simp)
  have tt : lmSum [(7, 2)] = 2 := by decide
  rw [tt] at TT
  replace A1 := Lib.hid A1
  replace A2 := Lib.hid A2
  replace A3 := Lib.hid A3
  replace LS := Lib.hid LS
  replace G7 := Lib.hid G7
  replace G8 := Lib.hid G8
  replace TT := Lib.hid TT
  clear m1 m2 m3 ls g7 g8 tt
  go_enter Try.func53, Try.ntmps53
  go_wp2_with fail
  refine (N.out _).mono ?_
  rintro e w1 ⟨g, b, rfl, h1, hg, hbb, hb1⟩
  go_wp2_with fail
  refine (A1.out g b _ h1).mono ?_
  rintro e w2 ⟨rfl, h2, hc2⟩
  have hb2 := below_chg hb1 hc2 (fun b' hb' e => by omega) hb1.size
  clear h1 hc2 hb1
  go_wp2_with fail
  refine (A2.out g b _ h2).mono ?_
  rintro e w3 ⟨rfl, h3, hc3⟩
  have hb3 := below_chg hb2 hc3 (fun b' hb' e => by omega) hb2.size
  clear h2 hc3 hb2
  go_wp2_with fail
  refine (A3.out g b _ h3).mono ?_
  rintro e w4 ⟨rfl, h4, hc4⟩
  have hb4 := below_chg hb3 hc4 (fun b' hb' e => by omega) hb3.size
  clear h3 hc4 hb3
  have P5 := Blk.new w4 140 #[.map none]
  have h5 := h4.call (below_alloc (Below.refl _ _) (.cells #[.map none] 140))
  have hb5 := below_alloc hb4 (.cells #[.map none] 140)
  go_wp2_with fail
  clear h4 hb4
  refine (load_add_nil _ _ _).mono ?_
  rintro e w5 ⟨rfl, rfl⟩
  go_wp2_with fail
  refine (load_add_plain _ _ _ _ P5).mono ?_
  rintro e w6 ⟨rfl, rfl⟩
  go_wp2_with fail
  refine (load_clear_nil _ _).mono ?_
  rintro e w7 ⟨rfl, rfl⟩
  go_wp2_with fail
  refine (load_clear_plain _ _ _ P5).mono ?_
  rintro e w8 ⟨rfl, rfl⟩
  generalize w4.alloc (.cells #[.map none] 140) = w9 at *
  go_wp2_with fail
  refine (LS.out _).mono ?_
  rintro e w10 ⟨rfl, hb10⟩
  have h10 := h5.call hb10
  have P10 := P5.call hb10
  have hbA := below_chain hb10 hb5
  clear h5 P5 hb5 hb10
  go_wp2_with fail
  refine (G7.out g b _ h10).mono ?_
  rintro e w11 ⟨rfl, rfl⟩
  go_wp2_with fail
  refine (G8.out g b _ h10).mono ?_
  rintro e w11 ⟨rfl, rfl⟩
  go_wp2_with fail
  refine (TT.out g b _ h10).mono ?_
  rintro e w12 ⟨rfl, hb12⟩
  have P12 := P10.call hb12
  have hbB := below_chain hb12 hbA
  clear h10 P10 hbA hb12
  go_wp2_with fail
  refine (load_get_nil _ _).mono ?_
  rintro e w13 ⟨rfl, rfl⟩
  go_wp2_with fail
  refine (load_total_plain _ _ P12).mono ?_
  rintro e w13 ⟨rfl, rfl⟩
  go_wp2_with fail
  refine (load_ids_nil _).mono ?_
  rintro e w13 ⟨rfl, rfl⟩
  go_wp2_with fail
  go_ret
  exact ⟨rfl, hbB⟩
end Go.Proofs.Ytkpkjpdhlmjchaa
