/- wheel: Set. -/
import Derived.Test.YtfpepgeaaadpdaaWheelE
import Derived.Test.YtfpepgeaaadpdaaPush
namespace Go.Proofs.Ytfpepgeaaadpdaa
open Go Go.RowKit Go.Deep Go.Maps Go.ChangeMaps

theorem wheel_set_nil (id due : Int) (w : World) : Calls Try.prog 8 #[.pointer none, .int .i64 id, .int .i64 due] w fun e w' => e = .returned (.bool false) ∧ w = w' := by
  go_enter Try.func8, Try.ntmps8
  go_wp2_with fail
  refine (wheel_given_nil _).mono ?_
  rintro e w1 ⟨rfl, rfl⟩
  go_wp2_with fail
  go_ret
  exact ⟨rfl, rfl⟩
theorem wheel_set_plain {Z : Array Value} {g : Nat} {w : World} (id due : Int) (h : Blk w g 50 Z) (hz : Z[0]? = some (.int .i64 0)) : Calls Try.prog 8 #[.pointer (some ⟨g, 0, none⟩), .int .i64 id, .int .i64 due] w fun e w' => e = .returned (.bool false) ∧ w = w' := by
  have GV := Lib.hid (wheel_given_plain h hz)
  clear h hz
  go_enter Try.func8, Try.ntmps8
  go_wp2_with fail
  refine GV.out.mono ?_
  rintro e w1 ⟨rfl, rfl⟩
  go_wp2_with fail
  go_ret
  exact ⟨rfl, rfl⟩
theorem WhAt.drewN {w : World} {base g bm : Nat} {G now : Int} {M : LM} {R : Nat → List Int} {A : Nat → Option Addr} {C : Nat → Nat} {T : Nat → Int} {Z : Array Value} (h : WhAt w base g bm G now M R A C T Z) (n : Nat) : WhAt (w.drewN n) base g bm G now M R A C T Z :=
  ⟨h.blk, h.size, h.z0, h.z1, h.z2, h.row, h.own, h.apart, h.at_, h.map, h.gb, h.mb⟩
section
variable {w : World} {base g bm : Nat} {G now : Int} {M : LM} {R : Nat → List Int} {A : Nat → Option Addr} {C : Nat → Nat} {T : Nat → Int} {Z : Array Value}
/-- May a number be due then? -/
def setOk (id due : Int) : Bool := decide (0 ≤ id ∧ id ≤ 4095 ∧ 0 ≤ due ∧ due ≤ 2199023255552)
theorem wheel_set_no (h : WhAt w base g bm G now M R A C T Z) (hG : 0 < G) (id due : Int) (hb : setOk id due = false) :
    Calls Try.prog 8 #[.pointer (some ⟨g, 0, none⟩), .int .i64 id, .int .i64 due] w fun e w' => e = .returned (.bool false) ∧ w = w' := by
  have GV := Lib.hid (wheel_given h hG)
  unfold setOk at hb
  rw [decide_eq_false_iff_not] at hb
  clear h
  by_cases h1 : id < 0
  · have d1 : decide (id < 0) = true := by simpa using h1
    clear hb
    go_enter Try.func8, Try.ntmps8
    go_wp2_with fail
    refine GV.out.mono ?_
    rintro e w1 ⟨rfl, rfl⟩
    go_wp2_with fail
    go_ret
    exact ⟨rfl, rfl⟩
  have d1 : decide (id < 0) = false := by simpa using h1
  by_cases h2 : 4096 ≤ id
  · have d2 : decide (4096 ≤ id) = true := by simpa using h2
    clear hb
    go_enter Try.func8, Try.ntmps8
    go_wp2_with fail
    refine GV.out.mono ?_
    rintro e w1 ⟨rfl, rfl⟩
    go_wp2_with fail
    go_ret
    exact ⟨rfl, rfl⟩
  have d2 : decide (4096 ≤ id) = false := by simp; omega
  by_cases h3 : due < 0
  · have d3 : decide (due < 0) = true := by simpa using h3
    clear hb
    go_enter Try.func8, Try.ntmps8
    go_wp2_with fail
    refine GV.out.mono ?_
    rintro e w1 ⟨rfl, rfl⟩
    go_wp2_with fail
    go_ret
    exact ⟨rfl, rfl⟩
  have d3 : decide (due < 0) = false := by simpa using h3
  have d4 : decide (2199023255552 < due) = true := by simp; omega
  clear hb
  go_enter Try.func8, Try.ntmps8
  go_wp2_with fail
  refine GV.out.mono ?_
  rintro e w1 ⟨rfl, rfl⟩
  go_wp2_with fail
  go_ret
  exact ⟨rfl, rfl⟩
/-- Unset, whether the number is due or not. -/
theorem wheel_unset_any (h : WhAt w base g bm G now M R A C T Z) (inv : RowInv M R T) (hG : 0 < G) (n : Nat) (hn : n < 4096) :
    Calls Try.prog 10 #[.pointer (some ⟨g, 0, none⟩), .int .i64 (n : Int)] w fun e w' => e = .returned (.bool (lmHas M n)) ∧
      ∃ R' T' Z', WhAt w' base g bm G now (lmDel M n) R' A C T' Z' ∧ RowInv (lmDel M n) R' T' ∧ (∀ j, j ≠ n → T' j = T j) ∧ (lmHas M n = true → T' n = 0) ∧ Chg (whF g bm A) w w' := by
  cases hh : lmHas M n
  · refine (wheel_unset_no h hG n (wf_i64_mk (by omega) (by omega)) hh).mono ?_
    rintro e w' ⟨rfl, rfl⟩
    rw [lmDel_same hh]
    exact ⟨rfl, R, T, Z, h, inv, fun _ _ => rfl, fun e => (by cases e), Chg.refl _ _⟩
  · obtain ⟨n', k, i, e1, _, hk, hT, hi, he, hc⟩ := wheel_unset h inv hG n hh
    obtain rfl : n = n' := by omega
    refine hc.mono ?_
    rintro e w' ⟨rfl, Z', h1, h2⟩
    exact ⟨rfl, _, _, Z', h1, inv.unset hk hT hi he, fun j hj => by rw [if_neg hj], fun _ => by rw [if_pos rfl], h2⟩
set_option maxRecDepth 100000 in
set_option maxHeartbeats 8000000 in
theorem wheel_set (h : WhAt w base g bm G now M R A C T Z) (inv : RowInv M R T) (hG : 1 ≤ G ∧ G ≤ 1024) (hnow : 0 ≤ now ∧ now ≤ 2199023255552) (n : Nat) (hn : n < 4096) (due : Int) (hd : 0 ≤ due ∧ due ≤ 2199023255552) (hM : M.length ≤ 100000) :
    Calls Try.prog 8 #[.pointer (some ⟨g, 0, none⟩), .int .i64 (n : Int), .int .i64 due] w fun e w' => e = .returned (.bool true) ∧
      ∃ R' A' C' T' Z', WhAt w' base g bm G now (lmPut M n due) R' A' C' T' Z' ∧ RowInv (lmPut M n due) R' T' ∧ T' n = rowI G now due + 1 ∧ (∀ j, j ≠ n → T' j = T j) ∧ Chg (whF g bm A) w w' ∧ (∀ b, whF g bm A' b → whF g bm A b ∨ w.heap.size ≤ b) := by
  have GV := Lib.hid (wheel_given h (by omega))
  have UN := Lib.hid (wheel_unset_any h inv (by omega) n hn)
  have d1 : decide ((n : Int) < 0) = false := by simp
  have d2 : decide (4096 ≤ (n : Int)) = false := by simp; omega
  have d3 : decide (due < 0) = false := by simp; omega
  have d4 : decide (2199023255552 < due) = false := by simp; omega
  have hni : (n : Int) < 4096 := by omega
  have hkey : (Lit.int .i64 (n : Int)).wf = true := wf_i64_mk (by omega) (by omega)
  have h0 := Lib.hid h
  clear h inv
  go_enter Try.func8, Try.ntmps8
  go_wp2_with fail
  refine GV.out.mono ?_
  rintro e w1 ⟨rfl, rfl⟩
  go_wp2_with fail
  refine UN.out.mono ?_
  rintro e w1 ⟨rfl, R1, T1, Z1, h1, inv1, ht1, -, hc1⟩
  have hb1 := h0.out.below_of hc1
  clear h0
  replace hc1 := Lib.hid hc1
  have RW := Lib.hid (wheel_row h1 hG hnow due hd)
  obtain ⟨k, hrk, hk⟩ : ∃ k : Nat, rowI G now due = (k : Int) ∧ k < 64 := ⟨(rowI G now due).toNat, by unfold rowI; omega, by unfold rowI; omega⟩
  have hM1 : (lmDel M n).length ≤ 100000 := Nat.le_trans (lmDel_length _ _) hM
  have hhn : lmHas (lmDel M n) n = false := by
    cases e : lmHas (lmDel M n) n
    · rfl
    · exact absurd rfl (lmHas_del.1 e).2
  have hput : lmPut (lmDel M n) n due = lmPut M n due := by unfold lmPut; rw [lmDel_del]
  have hput2 : lmPut M n due = lmIns ((n : Int), due) (lmDel M n) := rfl
  replace hput := Lib.hid hput
  replace hput2 := Lib.hid hput2
  replace hhn := Lib.hid hhn
  replace inv1 := Lib.hid inv1
  replace ht1 := Lib.hid ht1
  rw [hrk] at RW
  replace hrk := Lib.hid hrk
  clear GV UN
  generalize lmHas M n = bo at *
  generalize hMd : lmDel M n = M1 at *
  replace hMd := Lib.hid hMd
  go_wp2_with fail
  refine RW.out.mono ?_
  rintro e w2 ⟨rfl, m2, rfl⟩
  have h2 := h1.drewN m2
  have hb2 := below_drewN hb1 m2
  have hcu := Lib.hid (hc1.out.drewN m2)
  clear hc1
  clear h1 hb1 RW
  generalize w1.drewN m2 = w2 at *
  have c2 := h2.cell h2.z2
  have hI2 := h2.map
  replace h2 := Lib.hid h2
  go_wp2_with (at_mapUpdate; refine wpList_mapUpdate_own _ rfl _ _ _ 46 rfl 3 3 int_law Try.underlying46 _ bm M1.length (lmD M1) rfl hI2 (by unfold maxLen; omega) (.int .i64 (n : Int)) (.int .i64 due) (ilit n) rfl rfl (int_key hkey) (.lit (ilit due)) [] (plainElem_int Try.underlying3 (wf_i64_mk (by omega) (by omega))) ?_; intro w3 hown3 hg3)
  rw [lm_put, hput.out] at hown3
  have hI3 := Imap.of hown3
  have hcm : Chg (· = bm) w2 w3 := (Chg.refl _ w2).grown hg3 (fun k hk _ => by simpa using hk.symm)
  have hB3 := h2.out.blk.chg hcm (fun e => h2.out.gm e)
  have hO3 := (h2.out.own k hk).chg hcm (fun b hb e => (h2.out.row_ne hk hb).2.1 e)
  have hb3 : Below base w w3 := below_chg hb2 hcm (fun b hb e => by have := h2.out.mb; omega) (by have := h2.out.gb; have := h2.out.blk.lt; omega)
  have r3 := (hB3.cell (3 + k)).trans (h2.out.row k hk)
  have r3a : (w3.alloc (.cells #[.int .i64 (n : Int)] 3)).cell? ⟨g, 3 + k, none⟩ = some (.slice (A k) (R1 k).length (C k)) := (World.cell?_alloc_some w3 _ _ (by rw [r3]; rfl)).trans r3
  have hki : (k : Int) < 64 := by omega
  have hlenk := inv1.out.rlen hk
  have hlen1 : (R1 k).length ≤ 1000000 := by omega
  have hbase3 : base ≤ w3.heap.size := by
    have h5 := h2.out.gb
    have h6 := hB3.lt
    omega
  obtain ⟨i0, hi0, hz0, hz1, hz2⟩ := info_parts info_int
  have hw32 : IntKind.i32.wrap ((k : Int) + 1) = (k : Int) + 1 := by simp [IntKind.wrap, IntKind.bits, IntKind.signed]; omega
  have hgk : ¬ InB (A k) g := fun hb => (h2.out.row_ne hk hb).1 rfl
  replace hO3 := Lib.hid hO3
  replace hB3 := Lib.hid hB3
  replace hI3 := Lib.hid hI3
  replace hcm := Lib.hid hcm
  clear hown3 hg3 c2 hI2
  go_region_law (first
    | (refine step_push icell 1 (fun _ => rfl) (fun _ u hu => by simp at hu; subst hu; rfl) (by omega) 34 i0 _ 8 Try.underlying34 hi0 hz0 hz1 hz2 rfl (by omega) rfl (.tmp 46) (.tmp 48) rfl base (A k) (C k) (R1 k) (n : Int) (R1 k).length rfl rfl hO3.out.drew _ (by simp) rfl rfl hlen1 hbase3 ?_; intro A2 p2 w7 ho7 hp7; have hB7 := Blk.chg (w := w3.drew) hB3.out hp7.chg hgk; have r7 := (hB7.cell (3 + k)).trans (h2.out.row k hk); have f7 := hB7.frozen (3 + k)))
  all_goals
    obtain ⟨sl, hsl⟩ : ∃ sl, Value.slice A2 ((R1 k).length + 1) p2 = sl := ⟨_, rfl⟩
    rw [hsl]
    have hg3 : g < w3.heap.size := hB3.out.lt
    have hn2 : ¬ InB A2 g := fun hi2 => by
      rcases hp7.new g hi2 with h5 | h5
      · exact hgk h5
      · have h6 : w3.heap.size ≤ g := h5
        omega
    have hap : ∀ j, j < 64 → j ≠ k → ∀ b, InB A2 b → ¬ InB (A j) b := fun j hj hjk b hb hb2 => by
      rcases hp7.new b hb with h5 | h5
      · exact h2.out.apart k j hk hj (fun e => hjk e.symm) b h5 hb2
      · have h6 : w3.heap.size ≤ b := h5
        have h7 := (h2.out.row_ne hj hb2).2.2.2
        have h8 := hcm.out.size
        omega
    have hnw : ∀ b, InB A2 b → InB (A k) b ∨ w3.heap.size ≤ b := fun b hb => hp7.new b hb
    replace hnw := Lib.hid hnw
    have hB8 := hB7.set_ (3 + k) sl
    have hc8 : Chg (fun b => InB (A k) b ∨ b = g) w3 (w7.setCell ⟨g, 3 + k, none⟩ sl) := Chg.setCell (hp7.chg.undrew.mono (fun b _ e => .inl e)) (fun _ => .inr rfl) sl
    have hO8 := ho7.far (p := ⟨g, 3 + k, none⟩) hn2 sl
    replace hsl := Lib.hid hsl
    clear ho7 hp7 hB7 r7 f7 r3 r3a
    generalize w7.setCell ⟨g, 3 + k, none⟩ sl = w8 at *
    have a8 := hB8.cell (67 + n)
    have f8 := hB8.frozen (67 + n)
    have hZ8 : (Z1.setIfInBounds (3 + k) sl)[67 + n]? = some (.int .i32 (T1 n)) := by
      rw [Array.getElem?_setIfInBounds_ne (by omega)]
      exact h2.out.at_ n hn
    rw [hZ8] at a8
    replace hZ8 := Lib.hid hZ8
    have hB9 := hB8.set_ (67 + n) (.int .i32 ((k : Int) + 1))
    have hc9 : Chg (fun b => InB (A k) b ∨ b = g) w3 (w8.setCell ⟨g, 67 + n, none⟩ (.int .i32 ((k : Int) + 1))) := Chg.setCell hc8 (fun _ => .inr rfl) _
    have hO9 := hO8.far (p := ⟨g, 67 + n, none⟩) hn2 (.int .i32 ((k : Int) + 1))
    have hI9 := hI3.out.chg hc9 (fun e => by rcases e with e | e; exact (h2.out.row_ne hk e).2.1 rfl; exact h2.out.gm e.symm)
    have hall : Chg (fun b => b = bm ∨ InB (A k) b ∨ b = g) w2 (w8.setCell ⟨g, 67 + n, none⟩ (.int .i32 ((k : Int) + 1))) := (hcm.out.mono (fun b _ e => .inl e)).trans hc9 (fun b _ e => .inr e)
    replace hB9 := Lib.hid hB9
    replace hc9 := Lib.hid hc9
    replace hO9 := Lib.hid hO9
    replace hI9 := Lib.hid hI9
    replace hall := Lib.hid hall
    replace hap := Lib.hid hap
    clear hB8 hc8 hO8
    obtain ⟨Z3, hZ3⟩ : ∃ Z3, (Z1.setIfInBounds (3 + k) sl).setIfInBounds (67 + n) (.int .i32 ((k : Int) + 1)) = Z3 := ⟨_, rfl⟩
    rw [hZ3] at hB9
    replace hZ3 := Lib.hid hZ3
    have hsz := h2.out.size
    go_wp2_with fail
    go_ret
    generalize w8.setCell ⟨g, 67 + n, none⟩ (.int .i32 ((k : Int) + 1)) = w9 at *
    refine ⟨rfl, fun j => if j = k then R1 k ++ [(n : Int)] else R1 j, fun j => if j = k then A2 else A j, fun j => if j = k then p2 else C j, fun j => if j = n then (k : Int) + 1 else T1 j, Z3, ⟨hB9.out, ?_, ?_, ?_, ?_, fun j hj => ?_, fun j hj => ?_, fun i j hi hj hij b hb => ?_, fun j hj => ?_, hI9.out, h2.out.gb, h2.out.mb⟩, ?_, ?_, ?_, ?_, ?_⟩
    · rw [← hZ3.out]; simp [hsz]
    · rw [← hZ3.out, Array.getElem?_setIfInBounds_ne (by omega), Array.getElem?_setIfInBounds_ne (by omega)]
      exact h2.out.z0
    · rw [← hZ3.out, Array.getElem?_setIfInBounds_ne (by omega), Array.getElem?_setIfInBounds_ne (by omega)]
      exact h2.out.z1
    · rw [← hZ3.out, Array.getElem?_setIfInBounds_ne (by omega), Array.getElem?_setIfInBounds_ne (by omega)]
      exact h2.out.z2
    · rw [← hZ3.out, Array.getElem?_setIfInBounds_ne (by omega)]
      by_cases e : j = k
      · subst e
        rw [if_pos rfl, if_pos rfl, if_pos rfl, Array.getElem?_setIfInBounds_self_of_lt (by omega), List.length_append, ← hsl.out]
        rfl
      · rw [if_neg e, if_neg e, if_neg e, Array.getElem?_setIfInBounds_ne (by omega)]
        exact h2.out.row j hj
    · by_cases e : j = k
      · subst e
        rw [if_pos rfl, if_pos rfl, if_pos rfl]
        exact hO9.out
      · rw [if_neg e, if_neg e, if_neg e]
        refine (h2.out.own j hj).chg hall.out (fun b hb ef => ?_)
        have hr := h2.out.row_ne hj hb
        rcases ef with ef | ef | ef
        · exact hr.2.1 ef
        · exact h2.out.apart j k hj hk e b hb ef
        · exact hr.1 ef
    · by_cases e1 : i = k
      · rw [if_pos e1] at hb
        rw [if_neg (fun e => hij (e1.trans e.symm))]
        exact hap.out j hj (fun e => hij (e1.trans e.symm)) b hb
      · rw [if_neg e1] at hb
        by_cases e2 : j = k
        · rw [if_pos e2]
          exact fun h5 => hap.out i hi e1 b h5 hb
        · rw [if_neg e2]
          exact h2.out.apart i j hi hj hij b hb
    · rw [← hZ3.out]
      by_cases e : j = n
      · subst e
        rw [if_pos rfl, Array.getElem?_setIfInBounds_self_of_lt (by rw [Array.size_setIfInBounds]; omega)]
      · rw [if_neg e, Array.getElem?_setIfInBounds_ne (by omega), Array.getElem?_setIfInBounds_ne (by omega)]
        exact h2.out.at_ j hj
    · rw [hput2.out]
      exact inv1.out.put hk hn hd hhn.out
    · dsimp only
      rw [if_pos rfl, hrk.out]
    · intro j hj
      dsimp only
      rw [if_neg hj]
      exact ht1.out j hj
    · refine hcu.out.trans hall.out (fun b _ ef => ?_)
      rcases ef with ef | ef | ef
      · exact .inr (.inl ef)
      · exact .inr (.inr ⟨k, hk, ef⟩)
      · exact .inl ef
    · intro b hb
      have s1 := hcu.out.size
      have s2 := hcm.out.size
      rcases hb with hb | hb | ⟨j, hj, hb⟩
      · exact .inl (.inl hb)
      · exact .inl (.inr (.inl hb))
      · dsimp only at hb
        by_cases e : j = k
        · rw [if_pos e] at hb
          rcases hnw.out b hb with h5 | h5
          · exact .inl (.inr (.inr ⟨k, hk, h5⟩))
          · exact .inr (by omega)
        · rw [if_neg e] at hb
          exact .inl (.inr (.inr ⟨j, hj, hb⟩))
end
end Go.Proofs.Ytfpepgeaaadpdaa
