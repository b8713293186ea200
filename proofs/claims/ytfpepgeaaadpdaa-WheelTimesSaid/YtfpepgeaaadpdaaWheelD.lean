/- wheel: Unset. -/
import Derived.Test.YtfpepgeaaadpdaaWheelC
import Derived.Deep.RegionLaw
import Derived.Deep.RegionHeld3
import Derived.Deep.CutRange
import Derived.Deep.CutBlock
namespace Go.Proofs.Ytfpepgeaaadpdaa
open Go Go.RowKit Go.Deep Go.Maps Go.ChangeMaps

theorem lmHas_iff {M : LM} {id : Int} : lmHas M id = true ↔ ∃ x ∈ M, x.1 = id := by
  unfold lmHas
  rw [List.any_eq_true]
  simp
/-- The rows hold what is due, each number once, where it is told to be. -/
structure RowInv (M : LM) (R : Nat → List Int) (T : Nat → Int) : Prop where
  idr : ∀ x ∈ M, 0 ≤ x.1 ∧ x.1 ≤ 4095 ∧ 0 ≤ x.2 ∧ x.2 ≤ 2199023255552
  mem : ∀ k : Nat, k < 64 → ∀ id, id ∈ R k ↔ lmHas M id = true ∧ T id.toNat = k + 1
  rng : ∀ x ∈ M, 1 ≤ T x.1.toNat ∧ T x.1.toNat ≤ 64
  nd : ∀ k : Nat, k < 64 → (R k).Nodup
theorem RowInv.at_ {M : LM} {R : Nat → List Int} {T : Nat → Int} (h : RowInv M R T) {id : Int} (hh : lmHas M id = true) : ∃ n k i : Nat, id = (n : Int) ∧ n < 4096 ∧ k < 64 ∧ T n = (k : Int) + 1 ∧ i < (R k).length ∧ (R k).getD i 0 = id ∧ ∀ j, j < i → (R k).getD j 0 ≠ id := by
  obtain ⟨x, hx, rfl⟩ := lmHas_iff.1 hh
  have h1 := h.idr x hx
  have h2 := h.rng x hx
  obtain ⟨n, hn⟩ : ∃ n : Nat, x.1 = (n : Int) := ⟨x.1.toNat, by omega⟩
  rw [hn] at h2 h1 hh ⊢
  rw [Int.toNat_natCast] at h2
  obtain ⟨k, hk⟩ : ∃ k : Nat, T n = (k : Int) + 1 := ⟨(T n - 1).toNat, by omega⟩
  have hk64 : k < 64 := by omega
  have hm : (n : Int) ∈ R k := (h.mem k hk64 _).2 ⟨hh, by rw [Int.toNat_natCast]; exact hk⟩
  obtain ⟨i, hi, he⟩ := List.getElem_of_mem hm
  refine ⟨n, k, i, rfl, by omega, hk64, hk, hi, ?_, fun j hj e => ?_⟩
  · rw [List.getD_eq_getElem?_getD, List.getElem?_eq_getElem hi]
    exact he
  · rw [List.getD_eq_getElem?_getD, List.getElem?_eq_getElem (by omega)] at e
    have e2 : (R k)[j] = (n : Int) := e
    have := (List.nodup_iff_pairwise_ne.1 (h.nd k hk64))
    rw [List.pairwise_iff_getElem] at this
    exact this j i (by omega) hi hj (e2.trans he.symm)
section
variable {w : World} {base g bm : Nat} {G now : Int} {M : LM} {R : Nat → List Int} {A : Nat → Option Addr} {C : Nat → Nat} {T : Nat → Int} {Z : Array Value}
theorem WhAt.row_ne (h : WhAt w base g bm G now M R A C T Z) {j : Nat} (hj : j < 64) {b : Nat} (hb : InB (A j) b) : b ≠ g ∧ b ≠ bm ∧ base ≤ b ∧ b < w.heap.size := by
  have hO := h.own j hj
  have hbl := hO.block hb
  obtain ⟨a, ha, hab⟩ := hb
  have hcs : ∃ cs, Blk w b 3 cs := by
    have h2 := hO.2
    rcases h2 with ⟨h1, _⟩ | ⟨g', cap', cur, h1, hg, hh, _⟩
    · rw [ha] at h1
      cases h1
    · simp only [Value.slice.injEq] at h1
      rw [ha] at h1
      have e1 := h1.1
      simp only [Option.some.injEq] at e1
      subst e1
      subst hab
      exact ⟨cur, hh⟩
  obtain ⟨cs, hc⟩ := hcs
  refine ⟨fun e => ?_, fun e => ?_, hbl.1, hbl.2⟩
  · subst e
    exact Blk.ne_ h.blk hc (by decide) rfl
  · subst e
    obtain ⟨es, clock, hm, _⟩ := h.map
    unfold Blk at hc
    rw [hm] at hc
    cases hc
theorem WhAt.gm (h : WhAt w base g bm G now M R A C T Z) : g ≠ bm := by
  intro e
  subst e
  obtain ⟨es, clock, hm, _⟩ := h.map
  have hb := h.blk
  unfold Blk at hb
  rw [hm] at hb
  cases hb
theorem wheel_unset_no (h : WhAt w base g bm G now M R A C T Z) (hG : 0 < G) (id : Int) (hk : (Lit.int .i64 id).wf = true) (hh : lmHas M id = false) :
    Calls Try.prog 10 #[.pointer (some ⟨g, 0, none⟩), .int .i64 id] w fun e w' => e = .returned (.bool false) ∧ w = w' := by
  have D := wheel_due h hG id hk
  rw [hh] at D
  replace D := Lib.hid D
  clear h hh
  go_enter Try.func10, Try.ntmps10
  go_wp2_with fail
  refine D.out.mono ?_
  rintro e w1 ⟨rfl, rfl⟩
  go_wp2_with fail
  go_ret
  exact ⟨rfl, rfl⟩
theorem wheel_unset_nil (id : Int) (w : World) : Calls Try.prog 10 #[.pointer none, .int .i64 id] w fun e w' => e = .returned (.bool false) ∧ w = w' := by
  have D := Lib.hid (wheel_due_nil id w)
  go_enter Try.func10, Try.ntmps10
  go_wp2_with fail
  refine D.out.mono ?_
  rintro e w1 ⟨rfl, rfl⟩
  go_wp2_with fail
  go_ret
  exact ⟨rfl, rfl⟩
theorem wheel_unset_plain {Z : Array Value} {g : Nat} {w : World} (id : Int) (h : Blk w g 50 Z) (hz : Z[0]? = some (.int .i64 0)) : Calls Try.prog 10 #[.pointer (some ⟨g, 0, none⟩), .int .i64 id] w fun e w' => e = .returned (.bool false) ∧ w = w' := by
  have D := Lib.hid (wheel_due_plain id h hz)
  clear h hz
  go_enter Try.func10, Try.ntmps10
  go_wp2_with fail
  refine D.out.mono ?_
  rintro e w1 ⟨rfl, rfl⟩
  go_wp2_with fail
  go_ret
  exact ⟨rfl, rfl⟩
set_option maxRecDepth 100000 in
set_option maxHeartbeats 8000000 in
theorem wheel_unset (h : WhAt w base g bm G now M R A C T Z) (inv : RowInv M R T) (hG : 0 < G) (id : Int) (hh : lmHas M id = true) :
    ∃ n k i : Nat, id = (n : Int) ∧ n < 4096 ∧ k < 64 ∧ T n = (k : Int) + 1 ∧ i < (R k).length ∧ (R k).getD i 0 = id ∧
    Calls Try.prog 10 #[.pointer (some ⟨g, 0, none⟩), .int .i64 id] w fun e w' => e = .returned (.bool true) ∧
      ∃ Z', WhAt w' base g bm G now (lmDel M id) (fun j => if j = k then (R k).eraseIdx i else R j) A C (fun j => if j = n then 0 else T j) Z' ∧ Chg (whF g bm A) w w' := by
  obtain ⟨n, k, i, rfl, hn, hk, hT, hi, he, hne⟩ := inv.at_ hh
  refine ⟨n, k, i, rfl, hn, hk, hT, hi, he, ?_⟩
  have hkey : (Lit.int .i64 (n : Int)).wf = true := wf_i64_mk (by omega) (by omega)
  have D := wheel_due h hG n hkey
  rw [hh] at D
  have hO := h.own k hk
  have hrow := h.row k hk
  have hat := h.at_ n hn
  rw [hT] at hat
  obtain ⟨gp, cap, hfv, hgp, hgl⟩ := (show w.ownsRow base 3 1 (.slice (A k) (R k).length (C k)) (R k).length ((R k).flatMap icell) from hO).form (by omega)
  obtain ⟨hA, hC⟩ : A k = some ⟨gp, 0, none⟩ ∧ C k = cap := by
    simp only [Value.slice.injEq] at hfv
    exact ⟨hfv.1, hfv.2.2⟩
  subst hC
  have ca := h.cell hat
  have cr := h.cell hrow
  have c2 := h.cell h.z2
  rw [hA] at cr
  obtain ⟨L, hL⟩ : ∃ L, R k = L := ⟨_, rfl⟩
  rw [hL] at cr hi he hne hO
  rw [hA] at hO
  have hLr : ∀ W, Below w.heap.size w W → ∀ j, j < L.length → W.cell? ⟨gp, 0 + j, none⟩ = some (.int .i64 (L.getD j 0)) := fun W hb j hj => by
    have h1 := ((hO.call hb).cellAt j (by omega))
    rw [Nat.zero_add, h1, icell_map, List.getElem?_map, List.getD_eq_getElem?_getD, List.getElem?_eq_getElem hj]
    rfl
  have hLf : ∀ W, Below w.heap.size w W → ∀ j, j < L.length → W.frozen? ⟨gp, 0 + j, none⟩ = false := fun W hb j hj => by
    rw [Nat.zero_add]
    exact (hO.call hb).frozenAt j
  obtain ⟨hcap, hmax⟩ : L.length ≤ C k ∧ C k ≤ 9223372036854775807 := by
    have h2 := hO.2
    rcases h2 with ⟨h2, _⟩ | ⟨g', cap', cur, hv, hb, hh, hc, hm, hs, hx⟩
    · cases h2
    · simp only [Value.slice.injEq] at hv
      rw [hv.2.2]
      unfold maxLen at hm
      omega
  have IX : ∀ W, Below w.heap.size w W → Calls Try.prog 21 #[.slice (some ⟨gp, 0, none⟩) L.length (C k), .int .i64 (n : Int)] W fun e w' => e = .returned (.int .i64 (i : Int)) ∧ w' = W := by
    intro W hb
    have := Try.slices_Index_int gp 0 L.length (C k) L n W (Nat.le_refl _) (by omega) (hLr W hb)
    rw [Lib.idxOf_hit L L.length i n hi (Nat.le_refl _) he hne] at this
    exact this
  have DE : ∀ W, Below w.heap.size w W → Calls Try.prog 22 #[.slice (some ⟨gp, 0, none⟩) L.length (C k), .int .i64 (i : Int), .int .i64 ((i : Int) + 1)] W fun e w' => e = .returned (.slice (some ⟨gp, 0, none⟩) (L.length - 1) (C k)) ∧
      OwnI w' base (some ⟨gp, 0, none⟩) (C k) (L.eraseIdx i) ∧ Chg (· = gp) W w' := by
    intro W hb
    have := Try.slices_Delete_int_cells gp 0 L.length (C k) i (i + 1) L W (Nat.le_refl _) hcap hmax (by omega) (by omega) (hLr W hb) (hLf W hb)
    rw [show i + 1 - i = 1 by omega, List.take_length] at this
    refine this.mono ?_
    rintro e w' ⟨rfl, q, rfl⟩
    have hO2 : OwnI (W.drewN q) base (some ⟨gp, 0, none⟩) (C k) L := hO.call (below_drewN hb q)
    exact ⟨rfl, own_erase hO2 hi, (Chg.refl (· = gp) W |>.drewN q).trans (chg_setCells _ _ _) (fun _ _ h => h)⟩
  have hki : (k : Int) < 64 := by omega
  have hni : (n : Int) < 4096 := by omega
  have hi0 : decide ((0 : Int) ≤ (i : Int)) = true := by simp
  have hi31 : (i : Int) + 1 ≤ 9223372036854775807 := by omega
  have hgI : InB (A k) gp := ⟨⟨gp, 0, none⟩, hA, rfl⟩
  have hgne : gp ≠ g := (h.row_ne hk hgI).1
  have hgm : gp ≠ bm := (h.row_ne hk hgI).2.1
  replace IX := Lib.hid IX
  replace DE := Lib.hid DE
  replace D := Lib.hid D
  go_enter Try.func10, Try.ntmps10
  go_wp2_with fail
  refine D.out.mono ?_
  rintro e w1 ⟨rfl, rfl⟩
  go_wp2_with fail
  refine (IX.out _ (Below.refl _ _)).mono ?_
  rintro e w1 ⟨rfl, rfl⟩
  have hBs := Lib.hid h.blk
  have hiw : IntKind.i64.wrap ((i : Int) + 1) = (i : Int) + 1 := by simp [IntKind.wrap, IntKind.bits, IntKind.signed]; omega
  replace hne := Lib.hid hne
  replace hLr := Lib.hid hLr
  replace hLf := Lib.hid hLf
  replace he := Lib.hid he
  replace hO := Lib.hid hO
  replace h := Lib.hid h
  replace inv := Lib.hid inv
  replace hfv := Lib.hid hfv
  replace hA := Lib.hid hA
  replace hL := Lib.hid hL
  replace hrow := Lib.hid hrow
  replace hat := Lib.hid hat
  clear IX D
  go_upto_region 7 with fail
  go_region_law (first
    | (go_simp; go_at_call 22; (with_reducible refine (DE.out _ (by first | exact Below.refl _ _ | exact (Below.refl _ _).drew)).mono ?_); rintro e w5 ⟨rfl, hO5, hc5⟩; have hc6 := hc5.undrew; have hB5 := hBs.out.chg hc6 (fun e => hgne e.symm); have r5 := hB5.cell (3 + k); have f5 := hB5.frozen (3 + k); rw [hrow.out] at r5))
  all_goals
    obtain ⟨sl, hsl⟩ : ∃ sl, Value.slice (some ⟨gp, 0, none⟩) (L.length - 1) (C k) = sl := ⟨_, rfl⟩
    rw [hsl]
    have hB6 := hB5.set_ (3 + k) sl
    have hc7 : Chg (fun b => b = gp ∨ b = g) w1 (w5.setCell ⟨g, 3 + k, none⟩ sl) := Chg.setCell (hc6.mono (fun b _ e => .inl e)) (fun _ => .inr rfl) sl
    have hO6 := hO5.far (p := ⟨g, 3 + k, none⟩) (fun hi2 => by obtain ⟨a, ha, hb⟩ := hi2; cases ha; exact hgne hb) sl
    replace hO6 := Lib.hid hO6
    replace hc7 := Lib.hid hc7
    replace hB6 := Lib.hid hB6
    replace hsl := Lib.hid hsl
    clear hO5 hc5 hc6 hB5 r5 f5 ca c2 cr
    generalize w5.setCell ⟨g, 3 + k, none⟩ sl = w6 at *
    have a6 := hB6.out.cell (67 + n)
    have f6 := hB6.out.frozen (67 + n)
    have hZ6 : (Z.setIfInBounds (3 + k) sl)[67 + n]? = some (.int .i32 ((k : Int) + 1)) := by
      rw [Array.getElem?_setIfInBounds_ne (by omega)]
      exact hat.out
    rw [hZ6] at a6
    replace hZ6 := Lib.hid hZ6
    go_upto_region 9 with fail
    have hB7 := hB6.out.set_ (67 + n) (.int .i32 0)
    have hc8 : Chg (fun b => b = gp ∨ b = g) w1 (w6.setCell ⟨g, 67 + n, none⟩ (.int .i32 0)) := Chg.setCell hc7.out (fun _ => .inr rfl) _
    have hO7 := hO6.out.far (p := ⟨g, 67 + n, none⟩) (fun hi2 => by obtain ⟨a, ha, hb⟩ := hi2; cases ha; exact hgne hb) (.int .i32 0)
    clear a6 f6 hO6 hc7 hB6 hZ6 DE
    generalize w6.setCell ⟨g, 67 + n, none⟩ (.int .i32 0) = w7 at *
    have hI7 := h.out.map.chg hc8 (fun e => by rcases e with e | e; exact hgm e.symm; exact h.out.gm e.symm)
    have c7 := hB7.cell 2
    obtain ⟨Z2, hZ2⟩ : ∃ Z2, (Z.setIfInBounds (3 + k) sl).setIfInBounds (67 + n) (.int .i32 0) = Z2 := ⟨_, rfl⟩
    rw [hZ2] at hB7 c7
    have hZ22 : Z2[2]? = some (.map (some bm)) := by
      rw [← hZ2, Array.getElem?_setIfInBounds_ne (by omega), Array.getElem?_setIfInBounds_ne (by omega)]
      exact h.out.z2
    rw [hZ22] at c7
    replace hc8 := Lib.hid hc8
    replace hO7 := Lib.hid hO7
    replace hB7 := Lib.hid hB7
    replace hZ2 := Lib.hid hZ2
    replace hZ22 := Lib.hid hZ22
    go_wp2_with (at_delete; refine wpList_delete_own _ rfl _ _ 46 3 rfl 3 int_law Try.underlying46 _ bm _ (lmD M) rfl hI7 _ _ rfl (int_key hkey) ?_; intro w8 hown8 ht8)
    rw [lm_del] at hown8
    have hI8 := Imap.of hown8
    have hg8 := ht8.grown
    have hcm : Chg (· = bm) w7 w8 := (Chg.refl _ w7).grown hg8 (fun k hk _ => by simpa using hk.symm)
    have hB8 := hB7.out.chg hcm (fun e => h.out.gm e)
    have hall : Chg (fun b => b = gp ∨ b = g ∨ b = bm) w1 w8 := (hc8.out.mono (fun b _ e => by rcases e with e | e; exact .inl e; exact .inr (.inl e))).trans hcm (fun b _ e => .inr (.inr e))
    have hsz := h.out.size
    replace hI8 := Lib.hid hI8
    go_ret
    refine ⟨rfl, Z2, ⟨hB8, ?_, ?_, ?_, hZ22.out, fun j hj => ?_, fun j hj => ?_, h.out.apart, fun j hj => ?_, hI8.out, h.out.gb, h.out.mb⟩, hall.mono fun b _ e => ?_⟩
    · rw [← hZ2.out]; simp [hsz]
    · rw [← hZ2.out, Array.getElem?_setIfInBounds_ne (by omega), Array.getElem?_setIfInBounds_ne (by omega)]
      exact h.out.z0
    · rw [← hZ2.out, Array.getElem?_setIfInBounds_ne (by omega), Array.getElem?_setIfInBounds_ne (by omega)]
      exact h.out.z1
    · rw [← hZ2.out, Array.getElem?_setIfInBounds_ne (by omega)]
      by_cases e : j = k
      · subst e
        rw [if_pos rfl, Array.getElem?_setIfInBounds_self_of_lt (by omega), hL.out, List.length_eraseIdx, if_pos hi, ← hsl.out, hA.out]
      · rw [if_neg e, Array.getElem?_setIfInBounds_ne (by omega)]
        exact h.out.row j hj
    · by_cases e : j = k
      · subst e
        rw [if_pos rfl, hL.out, hA.out]
        exact hO7.out.chg hcm (fun b hb e => by obtain ⟨a, ha, hab⟩ := hb; cases ha; exact hgm (hab.trans e))
      · rw [if_neg e]
        refine (h.out.own j hj).chg hall (fun b hb ef => ?_)
        have hr := h.out.row_ne hj hb
        rcases ef with ef | ef | ef
        · exact h.out.apart j k hj hk e b hb (ef ▸ hgI)
        · exact hr.1 ef
        · exact hr.2.1 ef
    · rw [← hZ2.out]
      by_cases e : j = n
      · subst e
        rw [if_pos rfl, Array.getElem?_setIfInBounds_self_of_lt (by rw [Array.size_setIfInBounds]; omega)]
      · rw [if_neg e, Array.getElem?_setIfInBounds_ne (by omega), Array.getElem?_setIfInBounds_ne (by omega)]
        exact h.out.at_ j hj
    · rcases e with rfl | rfl | rfl
      · exact .inr (.inr ⟨k, hk, hgI⟩)
      · exact .inl rfl
      · exact .inr (.inl rfl)
end
end Go.Proofs.Ytfpepgeaaadpdaa
