/- wheel: Unset. wheel: what Unset and Set do to the rows, in plain words. wheel: Set. wheel: come: the numbers of a row that come. -/
import Derived.Test.YtohapcacckapoaaGreatJ25
import Derived.Deep.RegionLaw
import Derived.Deep.RegionHeld3
import Derived.Deep.CutRange
import Derived.Deep.CutBlock
import Derived.Test.YtohapcacckapoaaGreatJ11
namespace Go.Proofs.YtohapcacckapoaaGreat
open Go Go.RowKit Go.Deep Go.Maps Go.ChangeMaps
theorem lmHas_iff {M : LM} {id : Int} : lmHas M id = true ↔ ∃ x ∈ M, x.1 = id := by
 unfold lmHas
 rw [List.any_eq_true]
 simp
structure RowInv (M : LM) (R : Nat → List Int) (T : Nat → Int) : Prop where
 idr : ∀ x ∈ M, 0 ≤ x.1 ∧ x.1 ≤ 4095 ∧ 0 ≤ x.2 ∧ x.2 ≤ 2199023255552
 mem : ∀ k : Nat, k < 64 → ∀ id, id ∈ R k ↔ lmHas M id = true ∧ T id.toNat = k + 1
 rng : ∀ x ∈ M, 1 ≤ T x.1.toNat ∧ T x.1.toNat ≤ 64
 nd : ∀ k : Nat, k < 64 → (R k).Nodup
theorem RowInv.at_ {M : LM} {R : Nat → List Int} {T : Nat → Int} (h : RowInv M R T) {id : Int} (hh : lmHas M id = true) : ∃ n k i : Nat, id = (n : Int) ∧ n < 4096 ∧ k < 64 ∧ T n = (k : Int) + 1 ∧ i < (R k).length ∧ (R k).getD i 0 = id ∧ ∀ j, j < i → (R k).getD j 0 ≠ id := by
 obtain ⟨x, hx, rfl⟩ := lmHas_iff.1 hh
 have h1 := h.idr x hx
 have h2 := h.rng x hx
 obtain ⟨n, hn⟩ : ∃ n : Nat, x.1 = (n : Int) := ⟨x.1.toNat, by omega⟩
 rw [hn] at h2 h1 hh ⊢
 rw [Int.toNat_natCast] at h2
 obtain ⟨k, hk⟩ : ∃ k : Nat, T n = (k : Int) + 1 := ⟨(T n - 1).toNat, by omega⟩
 have hk64 : k < 64 := by omega
 have hm : (n : Int) ∈ R k := (h.mem k hk64 _).2 ⟨hh, by rw [Int.toNat_natCast]; exact hk⟩
 obtain ⟨i, hi, he⟩ := List.getElem_of_mem hm
 refine ⟨n, k, i, rfl, by omega, hk64, hk, hi, ?_, fun j hj e => ?_⟩
 ·
  rw [List.getD_eq_getElem?_getD, List.getElem?_eq_getElem hi]
  exact he
 ·
  rw [List.getD_eq_getElem?_getD, List.getElem?_eq_getElem (by omega)] at e
  have e2 : (R k)[j] = (n : Int) := e
  have := (List.nodup_iff_pairwise_ne.1 (h.nd k hk64))
  rw [List.pairwise_iff_getElem] at this
  exact this j i (by omega) hi hj (e2.trans he.symm)
section
variable {w : World} {base g bm : Nat} {G now : Int} {M : LM} {R : Nat → List Int} {A : Nat → Option Addr} {C : Nat → Nat} {T : Nat → Int} {Z : Array Value}
theorem WhAt.row_ne (h : WhAt w base g bm G now M R A C T Z) {j : Nat} (hj : j < 64) {b : Nat} (hb : InB (A j) b) : b ≠ g ∧ b ≠ bm ∧ base ≤ b ∧ b < w.heap.size := by
 have hO := h.own j hj
 have hbl := hO.block hb
 obtain ⟨a, ha, hab⟩ := hb
 have hcs : ∃ cs, Blk w b 3 cs := by
  have h2 := hO.2
  rcases h2 with ⟨h1, _⟩ | ⟨g', cap', cur, h1, hg, hh, _⟩
  ·
   rw [ha] at h1
   cases h1
  ·
   simp only [Value.slice.injEq] at h1
   rw [ha] at h1
   have e1 := h1.1
   simp only [Option.some.injEq] at e1
   subst e1
   subst hab
   exact ⟨cur, hh⟩
 obtain ⟨cs, hc⟩ := hcs
 refine ⟨fun e => ?_, fun e => ?_, hbl.1, hbl.2⟩
 ·
  subst e
  exact Blk.ne_ h.blk hc (by decide) rfl
 ·
  subst e
  obtain ⟨es, clock, hm, _⟩ := h.map
  unfold Blk at hc
  rw [hm] at hc
  cases hc
theorem WhAt.gm (h : WhAt w base g bm G now M R A C T Z) : g ≠ bm := by
 intro e
 subst e
 obtain ⟨es, clock, hm, _⟩ := h.map
 have hb := h.blk
 unfold Blk at hb
 rw [hm] at hb
 cases hb
theorem wheel_unset_no (h : WhAt w base g bm G now M R A C T Z) (hG : 0 < G) (id : Int) (hk : (Lit.int .i64 id).wf = true) (hh : lmHas M id = false) :
  Calls Tryz.prog 144 #[.pointer (some ⟨g, 0, none⟩), .int .i64 id] w fun e w' => e = .returned (.bool false) ∧ w = w' := by
 have D := wheel_due h hG id hk
 rw [hh] at D
 replace D := Lib.hid D
 clear h hh
 go_enter Tryz.func144, Tryz.ntmps144
 go_wp2_with fail
 refine D.out.mono ?_
 rintro e w1 ⟨rfl, rfl⟩
 go_wp2_with fail
 go_ret
 exact ⟨rfl, rfl⟩
set_option maxRecDepth 100000 in
set_option maxHeartbeats 8000000 in
theorem wheel_unset (h : WhAt w base g bm G now M R A C T Z) (inv : RowInv M R T) (hG : 0 < G) (id : Int) (hh : lmHas M id = true) :
  ∃ n k i : Nat, id = (n : Int) ∧ n < 4096 ∧ k < 64 ∧ T n = (k : Int) + 1 ∧ i < (R k).length ∧ (R k).getD i 0 = id ∧
  Calls Tryz.prog 144 #[.pointer (some ⟨g, 0, none⟩), .int .i64 id] w fun e w' => e = .returned (.bool true) ∧
   ∃ Z', WhAt w' base g bm G now (lmDel M id) (fun j => if j = k then (R k).eraseIdx i else R j) A C (fun j => if j = n then 0 else T j) Z' ∧ Chg (whF g bm A) w w' := by
 obtain ⟨n, k, i, rfl, hn, hk, hT, hi, he, hne⟩ := inv.at_ hh
 refine ⟨n, k, i, rfl, hn, hk, hT, hi, he, ?_⟩
 have hkey : (Lit.int .i64 (n : Int)).wf = true := wf_i64_mk (by omega) (by omega)
 have D := wheel_due h hG n hkey
 rw [hh] at D
 have hO := h.own k hk
 have hrow := h.row k hk
 have hat := h.at_ n hn
 rw [hT] at hat
 obtain ⟨gp, cap, hfv, hgp, hgl⟩ := (show w.ownsRow base 3 1 (.slice (A k) (R k).length (C k)) (R k).length ((R k).flatMap icell) from hO).form (by omega)
 obtain ⟨hA, hC⟩ : A k = some ⟨gp, 0, none⟩ ∧ C k = cap := by
  simp only [Value.slice.injEq] at hfv
  exact ⟨hfv.1, hfv.2.2⟩
 subst hC
 have ca := h.cell hat
 have cr := h.cell hrow
 have c2 := h.cell h.z2
 rw [hA] at cr
 obtain ⟨L, hL⟩ : ∃ L, R k = L := ⟨_, rfl⟩
 rw [hL] at cr hi he hne hO
 rw [hA] at hO
 have hLr : ∀ W, Below w.heap.size w W → ∀ j, j < L.length → W.cell? ⟨gp, 0 + j, none⟩ = some (.int .i64 (L.getD j 0)) := fun W hb j hj => by
  have h1 := ((hO.call hb).cellAt j (by omega))
  rw [Nat.zero_add, h1, icell_map, List.getElem?_map, List.getD_eq_getElem?_getD, List.getElem?_eq_getElem hj]
  rfl
 have hLf : ∀ W, Below w.heap.size w W → ∀ j, j < L.length → W.frozen? ⟨gp, 0 + j, none⟩ = false := fun W hb j hj => by
  rw [Nat.zero_add]
  exact (hO.call hb).frozenAt j
 obtain ⟨hcap, hmax⟩ : L.length ≤ C k ∧ C k ≤ 9223372036854775807 := by
  have h2 := hO.2
  rcases h2 with ⟨h2, _⟩ | ⟨g', cap', cur, hv, hb, hh, hc, hm, hs, hx⟩
  · cases h2
  ·
   simp only [Value.slice.injEq] at hv
   rw [hv.2.2]
   unfold maxLen at hm
   omega
 have IX : ∀ W, Below w.heap.size w W → Calls Tryz.prog 132 #[.slice (some ⟨gp, 0, none⟩) L.length (C k), .int .i64 (n : Int)] W fun e w' => e = .returned (.int .i64 (i : Int)) ∧ w' = W := by
  intro W hb
  have := Tryz.slices_Index_int gp 0 L.length (C k) L n W (Nat.le_refl _) (by omega) (hLr W hb)
  rw [Lib.idxOf_hit L L.length i n hi (Nat.le_refl _) he hne] at this
  exact this
 have DE : ∀ W, Below w.heap.size w W → Calls Tryz.prog 155 #[.slice (some ⟨gp, 0, none⟩) L.length (C k), .int .i64 (i : Int), .int .i64 ((i : Int) + 1)] W fun e w' => e = .returned (.slice (some ⟨gp, 0, none⟩) (L.length - 1) (C k)) ∧
   OwnI w' base (some ⟨gp, 0, none⟩) (C k) (L.eraseIdx i) ∧ Chg (· = gp) W w' := by
  intro W hb
  have := Tryz.slices_Delete_int_cells gp 0 L.length (C k) i (i + 1) L W (Nat.le_refl _) hcap hmax (by omega) (by omega) (hLr W hb) (hLf W hb)
  rw [show i + 1 - i = 1 by omega, List.take_length] at this
  refine this.mono ?_
  rintro e w' ⟨rfl, q, rfl⟩
  have hO2 : OwnI (W.drewN q) base (some ⟨gp, 0, none⟩) (C k) L := hO.call (below_drewN hb q)
  exact ⟨rfl, own_erase hO2 hi, (Chg.refl (· = gp) W |>.drewN q).trans (chg_setCells _ _ _) (fun _ _ h => h)⟩
 have hki : (k : Int) < 64 := by omega
 have hni : (n : Int) < 4096 := by omega
 have hi0 : decide ((0 : Int) ≤ (i : Int)) = true := by simp
 have hi31 : (i : Int) + 1 ≤ 9223372036854775807 := by omega
 have hgI : InB (A k) gp := ⟨⟨gp, 0, none⟩, hA, rfl⟩
 have hgne : gp ≠ g := (h.row_ne hk hgI).1
 have hgm : gp ≠ bm := (h.row_ne hk hgI).2.1
 replace IX := Lib.hid IX
 replace DE := Lib.hid DE
 replace D := Lib.hid D
 go_enter Tryz.func144, Tryz.ntmps144
 go_wp2_with fail
 refine D.out.mono ?_
 rintro e w1 ⟨rfl, rfl⟩
 go_wp2_with fail
 refine (IX.out _ (Below.refl _ _)).mono ?_
 rintro e w1 ⟨rfl, rfl⟩
 have hBs := Lib.hid h.blk
 have hiw : IntKind.i64.wrap ((i : Int) + 1) = (i : Int) + 1 := by simp [IntKind.wrap, IntKind.bits, IntKind.signed]; omega
 replace hne := Lib.hid hne
 replace hLr := Lib.hid hLr
 replace hLf := Lib.hid hLf
 replace he := Lib.hid he
 replace hO := Lib.hid hO
 replace h := Lib.hid h
 replace inv := Lib.hid inv
 replace hfv := Lib.hid hfv
 replace hA := Lib.hid hA
 replace hL := Lib.hid hL
 replace hrow := Lib.hid hrow
 replace hat := Lib.hid hat
 clear IX D
 go_upto_region 7 with fail
 go_region_law (first
  | (go_simp; go_at_call 155; (with_reducible refine (DE.out _ (by first | exact Below.refl _ _ | exact (Below.refl _ _).drew)).mono ?_); rintro e w5 ⟨rfl, hO5, hc5⟩; have hc6 := hc5.undrew; have hB5 := hBs.out.chg hc6 (fun e => hgne e.symm); have r5 := hB5.cell (3 + k); have f5 := hB5.frozen (3 + k); rw [hrow.out] at r5))
 all_goals
  obtain ⟨sl, hsl⟩ : ∃ sl, Value.slice (some ⟨gp, 0, none⟩) (L.length - 1) (C k) = sl := ⟨_, rfl⟩
  rw [hsl]
  have hB6 := hB5.set_ (3 + k) sl
  have hc7 : Chg (fun b => b = gp ∨ b = g) w1 (w5.setCell ⟨g, 3 + k, none⟩ sl) := Chg.setCell (hc6.mono (fun b _ e => .inl e)) (fun _ => .inr rfl) sl
  have hO6 := hO5.far (p := ⟨g, 3 + k, none⟩) (fun hi2 => by obtain ⟨a, ha, hb⟩ := hi2; cases ha; exact hgne hb) sl
  replace hO6 := Lib.hid hO6
  replace hc7 := Lib.hid hc7
  replace hB6 := Lib.hid hB6
  replace hsl := Lib.hid hsl
  clear hO5 hc5 hc6 hB5 r5 f5 ca c2 cr
  generalize w5.setCell ⟨g, 3 + k, none⟩ sl = w6 at *
  have a6 := hB6.out.cell (67 + n)
  have f6 := hB6.out.frozen (67 + n)
  have hZ6 : (Z.setIfInBounds (3 + k) sl)[67 + n]? = some (.int .i32 ((k : Int) + 1)) := by
   rw [Array.getElem?_setIfInBounds_ne (by omega)]
   exact hat.out
  rw [hZ6] at a6
  replace hZ6 := Lib.hid hZ6
  go_upto_region 9 with fail
  have hB7 := hB6.out.set_ (67 + n) (.int .i32 0)
  have hc8 : Chg (fun b => b = gp ∨ b = g) w1 (w6.setCell ⟨g, 67 + n, none⟩ (.int .i32 0)) := Chg.setCell hc7.out (fun _ => .inr rfl) _
  have hO7 := hO6.out.far (p := ⟨g, 67 + n, none⟩) (fun hi2 => by obtain ⟨a, ha, hb⟩ := hi2; cases ha; exact hgne hb) (.int .i32 0)
  clear a6 f6 hO6 hc7 hB6 hZ6 DE
  generalize w6.setCell ⟨g, 67 + n, none⟩ (.int .i32 0) = w7 at *
  have hI7 := h.out.map.chg hc8 (fun e => by rcases e with e | e; exact hgm e.symm; exact h.out.gm e.symm)
  have c7 := hB7.cell 2
  obtain ⟨Z2, hZ2⟩ : ∃ Z2, (Z.setIfInBounds (3 + k) sl).setIfInBounds (67 + n) (.int .i32 0) = Z2 := ⟨_, rfl⟩
  rw [hZ2] at hB7 c7
  have hZ22 : Z2[2]? = some (.map (some bm)) := by
   rw [← hZ2, Array.getElem?_setIfInBounds_ne (by omega), Array.getElem?_setIfInBounds_ne (by omega)]
   exact h.out.z2
  rw [hZ22] at c7
  replace hc8 := Lib.hid hc8
  replace hO7 := Lib.hid hO7
  replace hB7 := Lib.hid hB7
  replace hZ2 := Lib.hid hZ2
  replace hZ22 := Lib.hid hZ22
  go_wp2_with (at_delete; refine wpList_delete_own _ rfl _ _ 61 3 rfl 3 int_law Tryz.underlying61 _ bm _ (lmD M) rfl hI7 _ _ rfl (int_key hkey) ?_; intro w8 hown8 ht8)
  rw [lm_del] at hown8
  have hI8 := Imap.of hown8
  have hg8 := ht8.grown
  have hcm : Chg (· = bm) w7 w8 := (Chg.refl _ w7).grown hg8 (fun k hk _ => by simpa using hk.symm)
  have hB8 := hB7.out.chg hcm (fun e => h.out.gm e)
  have hall : Chg (fun b => b = gp ∨ b = g ∨ b = bm) w1 w8 := (hc8.out.mono (fun b _ e => by rcases e with e | e; exact .inl e; exact .inr (.inl e))).trans hcm (fun b _ e => .inr (.inr e))
  have hsz := h.out.size
  replace hI8 := Lib.hid hI8
  go_ret
  refine ⟨rfl, Z2, ⟨hB8, ?_, ?_, ?_, hZ22.out, fun j hj => ?_, fun j hj => ?_, h.out.apart, fun j hj => ?_, hI8.out, h.out.gb, h.out.mb⟩, hall.mono fun b _ e => ?_⟩
  · rw [← hZ2.out]; simp [hsz]
  ·
   rw [← hZ2.out, Array.getElem?_setIfInBounds_ne (by omega), Array.getElem?_setIfInBounds_ne (by omega)]
   exact h.out.z0
  ·
   rw [← hZ2.out, Array.getElem?_setIfInBounds_ne (by omega), Array.getElem?_setIfInBounds_ne (by omega)]
   exact h.out.z1
  ·
   rw [← hZ2.out, Array.getElem?_setIfInBounds_ne (by omega)]
   by_cases e : j = k
   ·
    subst e
    rw [if_pos rfl, Array.getElem?_setIfInBounds_self_of_lt (by omega), hL.out, List.length_eraseIdx, if_pos hi, ← hsl.out, hA.out]
   ·
    rw [if_neg e, Array.getElem?_setIfInBounds_ne (by omega)]
    exact h.out.row j hj
  ·
   by_cases e : j = k
   ·
    subst e
    rw [if_pos rfl, hL.out, hA.out]
    exact hO7.out.chg hcm (fun b hb e => by obtain ⟨a, ha, hab⟩ := hb; cases ha; exact hgm (hab.trans e))
   ·
    rw [if_neg e]
    refine (h.out.own j hj).chg hall (fun b hb ef => ?_)
    have hr := h.out.row_ne hj hb
    rcases ef with ef | ef | ef
    · exact h.out.apart j k hj hk e b hb (ef ▸ hgI)
    · exact hr.1 ef
    · exact hr.2.1 ef
  ·
   rw [← hZ2.out]
   by_cases e : j = n
   ·
    subst e
    rw [if_pos rfl, Array.getElem?_setIfInBounds_self_of_lt (by rw [Array.size_setIfInBounds]; omega)]
   ·
    rw [if_neg e, Array.getElem?_setIfInBounds_ne (by omega), Array.getElem?_setIfInBounds_ne (by omega)]
    exact h.out.at_ j hj
  ·
   rcases e with rfl | rfl | rfl
   · exact .inr (.inr ⟨k, hk, hgI⟩)
   · exact .inl rfl
   · exact .inr (.inl rfl)
end
end Go.Proofs.YtohapcacckapoaaGreat
namespace Go.Proofs.YtohapcacckapoaaGreat
open Go Go.RowKit Go.Deep
theorem lmHas_del {M : LM} {id x : Int} : lmHas (lmDel M id) x = true ↔ lmHas M x = true ∧ x ≠ id := by
 rw [lmHas_iff, lmHas_iff]
 constructor
 ·
  rintro ⟨y, hy, rfl⟩
  obtain ⟨h1, h2⟩ := List.mem_filter.1 hy
  exact ⟨⟨y, h1, rfl⟩, by simpa using h2⟩
 ·
  rintro ⟨⟨y, hy, rfl⟩, h2⟩
  exact ⟨y, List.mem_filter.2 ⟨hy, by simpa using h2⟩, rfl⟩
theorem lmIns_memI {x y : Int × Int} : ∀ {M : LM}, y ∈ lmIns x M ↔ y = x ∨ y ∈ M
 | [] => by simp [lmIns]
 | z :: M => by
  unfold lmIns
  split
  · simp
  ·
   rw [List.mem_cons, lmIns_memI, List.mem_cons]
   constructor
   ·
    rintro (h | h | h)
    · exact .inr (.inl h)
    · exact .inl h
    · exact .inr (.inr h)
   ·
    rintro (h | h | h)
    · exact .inr (.inl h)
    · exact .inl h
    · exact .inr (.inr h)
theorem lmHas_ins {M : LM} {id v x : Int} : lmHas (lmIns (id, v) M) x = true ↔ x = id ∨ lmHas M x = true := by
 rw [lmHas_iff, lmHas_iff]
 constructor
 ·
  rintro ⟨y, hy, rfl⟩
  rcases lmIns_memI.1 hy with rfl | hy
  · exact .inl rfl
  · exact .inr ⟨y, hy, rfl⟩
 ·
  rintro (rfl | ⟨y, hy, rfl⟩)
  · exact ⟨_, lmIns_memI.2 (.inl rfl), rfl⟩
  · exact ⟨y, lmIns_memI.2 (.inr hy), rfl⟩
theorem lmDel_same {M : LM} {id : Int} (h : lmHas M id = false) : lmDel M id = M := by
 unfold lmDel
 refine List.filter_eq_self.2 fun y hy => ?_
 have : y.1 ≠ id := fun e => by
  rw [lmHas_iff.2 ⟨y, hy, e⟩] at h
  cases h
 simpa using this
theorem mem_eraseIdx {L : List Int} (hn : L.Nodup) {i : Nat} (hi : i < L.length) {x : Int} : x ∈ L.eraseIdx i ↔ x ∈ L ∧ x ≠ L.getD i 0 := by
 have e0 : L.getD i 0 = L[i] := by
  rw [List.getD_eq_getElem?_getD, List.getElem?_eq_getElem hi]
  rfl
 have e : L = L.take i ++ L[i] :: L.drop (i + 1) := by rw [← List.drop_eq_getElem_cons hi, List.take_append_drop]
 rw [e0, List.eraseIdx_eq_take_drop_succ]
 have hn2 := hn
 rw [e] at hn2
 obtain ⟨n1, n2, n3⟩ := List.nodup_append.1 hn2
 obtain ⟨n4, n5⟩ := List.nodup_cons.1 n2
 constructor
 ·
  intro h
  rcases List.mem_append.1 h with h | h
  · exact ⟨List.mem_of_mem_take h, n3 x h L[i] (List.mem_cons_self ..)⟩
  · exact ⟨List.mem_of_mem_drop h, fun e => n4 (e ▸ h)⟩
 ·
  rintro ⟨h1, h2⟩
  rw [e] at h1
  rcases List.mem_append.1 h1 with h | h
  · exact List.mem_append.2 (.inl h)
  ·
   rcases List.mem_cons.1 h with h | h
   · exact absurd h h2
   · exact List.mem_append.2 (.inr h)
theorem RowInv.unset {M : LM} {R : Nat → List Int} {T : Nat → Int} (h : RowInv M R T) {n k i : Nat} (hk : k < 64) (hT : T n = (k : Int) + 1) (hi : i < (R k).length) (he : (R k).getD i 0 = (n : Int)) :
  RowInv (lmDel M n) (fun j => if j = k then (R k).eraseIdx i else R j) (fun j => if j = n then 0 else T j) where
 idr x hx := h.idr x (List.mem_filter.1 hx).1
 mem j hj id := by
  have hpos : lmHas M id = true → 0 ≤ id := fun hh => by
   obtain ⟨x, hx, rfl⟩ := lmHas_iff.1 hh
   exact (h.idr x hx).1
  have hm := h.mem j hj id
  rw [lmHas_del]
  by_cases ej : j = k
  ·
   subst ej
   rw [if_pos rfl, mem_eraseIdx (h.nd j hj) hi, he, hm]
   constructor
   ·
    rintro ⟨⟨h1, h2⟩, h3⟩
    have := hpos h1
    exact ⟨⟨h1, h3⟩, by rw [if_neg (by omega)]; exact h2⟩
   ·
    rintro ⟨⟨h1, h3⟩, h2⟩
    have := hpos h1
    rw [if_neg (by omega)] at h2
    exact ⟨⟨h1, h2⟩, h3⟩
  ·
   rw [if_neg ej, hm]
   constructor
   ·
    rintro ⟨h1, h2⟩
    have := hpos h1
    have hne : id ≠ (n : Int) := fun e => by
     subst e
     rw [Int.toNat_natCast, hT] at h2
     omega
    exact ⟨⟨h1, hne⟩, by rw [if_neg (by omega)]; exact h2⟩
   ·
    rintro ⟨⟨h1, h3⟩, h2⟩
    have := hpos h1
    rw [if_neg (by omega)] at h2
    exact ⟨h1, h2⟩
 rng x hx := by
  obtain ⟨h1, h2⟩ := List.mem_filter.1 hx
  have h3 := (h.idr x h1).1
  have h4 : x.1 ≠ (n : Int) := by simpa using h2
  rw [if_neg (by omega)]
  exact h.rng x h1
 nd j hj := by
  split
  · exact (h.nd k hk).sublist (List.eraseIdx_sublist _ _)
  · exact h.nd j hj
theorem RowInv.put {M : LM} {R : Nat → List Int} {T : Nat → Int} (h : RowInv M R T) {n k : Nat} {due : Int} (hk : k < 64) (hn : n < 4096) (hd : 0 ≤ due ∧ due ≤ 2199023255552) (hh : lmHas M n = false) :
  RowInv (lmIns ((n : Int), due) M) (fun j => if j = k then R k ++ [(n : Int)] else R j) (fun j => if j = n then (k : Int) + 1 else T j) where
 idr x hx := by
  rcases lmIns_memI.1 hx with rfl | hx
  · exact ⟨by dsimp only; omega, by dsimp only; omega, hd⟩
  · exact h.idr x hx
 mem j hj id := by
  have hpos : lmHas M id = true → 0 ≤ id ∧ id ≠ (n : Int) := fun hm => ⟨by
   obtain ⟨x, hx, rfl⟩ := lmHas_iff.1 hm
   exact (h.idr x hx).1, fun e => by rw [e, hh] at hm; cases hm⟩
  have hm := h.mem j hj id
  rw [lmHas_ins]
  by_cases ej : j = k
  ·
   subst ej
   rw [if_pos rfl, List.mem_append, hm, List.mem_singleton]
   constructor
   ·
    rintro (⟨h1, h2⟩ | rfl)
    ·
     have := hpos h1
     exact ⟨.inr h1, by rw [if_neg (by omega)]; exact h2⟩
    · exact ⟨.inl rfl, by rw [Int.toNat_natCast, if_pos rfl]⟩
   ·
    rintro ⟨h1 | h1, h2⟩
    · exact .inr h1
    ·
     have := hpos h1
     rw [if_neg (by omega)] at h2
     exact .inl ⟨h1, h2⟩
  ·
   rw [if_neg ej, hm]
   constructor
   ·
    rintro ⟨h1, h2⟩
    have := hpos h1
    exact ⟨.inr h1, by rw [if_neg (by omega)]; exact h2⟩
   ·
    rintro ⟨h1 | h1, h2⟩
    ·
     subst h1
     rw [Int.toNat_natCast, if_pos rfl] at h2
     omega
    ·
     have := hpos h1
     rw [if_neg (by omega)] at h2
     exact ⟨h1, h2⟩
 rng x hx := by
  rcases lmIns_memI.1 hx with rfl | hx
  ·
   dsimp only
   rw [Int.toNat_natCast, if_pos rfl]
   omega
  ·
   have h1 := (h.idr x hx).1
   have h2 : x.1 ≠ (n : Int) := fun e => by
    rw [← e, lmHas_iff.2 ⟨x, hx, rfl⟩] at hh
    cases hh
   rw [if_neg (by omega)]
   exact h.rng x hx
 nd j hj := by
  split
  ·
   rw [List.nodup_append]
   refine ⟨h.nd k hk, by simp, fun a ha b hb => ?_⟩
   rw [List.mem_singleton] at hb
   subst hb
   intro e
   subst e
   have := ((h.mem k hk _).1 ha).1
   rw [hh] at this
   cases this
  · exact h.nd j hj
theorem nodup_len : ∀ (N : Nat) (L : List Int), L.Nodup → (∀ x ∈ L, 0 ≤ x ∧ x < (N : Int)) → L.length ≤ N
 | 0, L, _, h => by
  cases L with
  | nil => simp
  | cons x r =>
   have := h x (List.mem_cons_self ..)
   omega
 | N + 1, L, hn, h => by
  have ih := nodup_len N (L.filter fun x => x != (N : Int)) (hn.sublist List.filter_sublist) fun x hx => by
   obtain ⟨h1, h2⟩ := List.mem_filter.1 hx
   have h3 := h x h1
   have h4 : x ≠ (N : Int) := by simpa using h2
   omega
  have h1 : ∀ L : List Int, L.Nodup → L.length ≤ (L.filter fun x => x != (N : Int)).length + 1 := by
   intro L hL
   induction L with
   | nil => simp
   | cons x r ihr =>
    obtain ⟨n1, n2⟩ := List.nodup_cons.1 hL
    by_cases e : x = (N : Int)
    ·
     subst e
     rw [List.filter_cons_of_neg (by simp)]
     have : r.filter (fun x => x != (N : Int)) = r := List.filter_eq_self.2 fun y hy => by
      have : y ≠ (N : Int) := fun e => n1 (e ▸ hy)
      simpa using this
     rw [this, List.length_cons]
     omega
    ·
     rw [List.filter_cons_of_pos (by simpa using e), List.length_cons, List.length_cons]
     have := ihr n2
     omega
  have := h1 L hn
  omega
theorem RowInv.rlen {M : LM} {R : Nat → List Int} {T : Nat → Int} (h : RowInv M R T) {k : Nat} (hk : k < 64) : (R k).length ≤ 4096 := by
 refine nodup_len 4096 _ (h.nd k hk) fun x hx => ?_
 obtain ⟨y, hy, rfl⟩ := lmHas_iff.1 ((h.mem k hk x).1 hx).1
 have := h.idr y hy
 omega
theorem RowInv.none : RowInv [] (fun _ => []) (fun _ => 0) where
 idr x hx := by cases hx
 mem k hk id := by simp [lmHas]
 rng x hx := by cases hx
 nd k hk := by simp
end Go.Proofs.YtohapcacckapoaaGreat
namespace Go.Proofs.YtohapcacckapoaaGreat
open Go Go.RowKit Go.Deep Go.Maps Go.ChangeMaps
theorem WhAt.drewN {w : World} {base g bm : Nat} {G now : Int} {M : LM} {R : Nat → List Int} {A : Nat → Option Addr} {C : Nat → Nat} {T : Nat → Int} {Z : Array Value} (h : WhAt w base g bm G now M R A C T Z) (n : Nat) : WhAt (w.drewN n) base g bm G now M R A C T Z :=
 ⟨h.blk, h.size, h.z0, h.z1, h.z2, h.row, h.own, h.apart, h.at_, h.map, h.gb, h.mb⟩
section
variable {w : World} {base g bm : Nat} {G now : Int} {M : LM} {R : Nat → List Int} {A : Nat → Option Addr} {C : Nat → Nat} {T : Nat → Int} {Z : Array Value}
def setOk (id due : Int) : Bool := decide (0 ≤ id ∧ id ≤ 4095 ∧ 0 ≤ due ∧ due ≤ 2199023255552)
theorem wheel_unset_any (h : WhAt w base g bm G now M R A C T Z) (inv : RowInv M R T) (hG : 0 < G) (n : Nat) (hn : n < 4096) :
  Calls Tryz.prog 144 #[.pointer (some ⟨g, 0, none⟩), .int .i64 (n : Int)] w fun e w' => e = .returned (.bool (lmHas M n)) ∧
   ∃ R' T' Z', WhAt w' base g bm G now (lmDel M n) R' A C T' Z' ∧ RowInv (lmDel M n) R' T' ∧ (∀ j, j ≠ n → T' j = T j) ∧ (lmHas M n = true → T' n = 0) ∧ Chg (whF g bm A) w w' := by
 cases hh : lmHas M n
 ·
  refine (wheel_unset_no h hG n (wf_i64_mk (by omega) (by omega)) hh).mono ?_
  rintro e w' ⟨rfl, rfl⟩
  rw [lmDel_same hh]
  exact ⟨rfl, R, T, Z, h, inv, fun _ _ => rfl, fun e => (by cases e), Chg.refl _ _⟩
 ·
  obtain ⟨n', k, i, e1, _, hk, hT, hi, he, hc⟩ := wheel_unset h inv hG n hh
  obtain rfl : n = n' := by omega
  refine hc.mono ?_
  rintro e w' ⟨rfl, Z', h1, h2⟩
  exact ⟨rfl, _, _, Z', h1, inv.unset hk hT hi he, fun j hj => by rw [if_neg hj], fun _ => by rw [if_pos rfl], h2⟩
end
def comeL (G : Int) (M : LM) (L : List Int) (nw : Int) : List Int := L.filter fun id => decide (turnI G (lmGet M id) * G ≤ nw)
theorem lmGet_mem {M : LM} {id : Int} (h : lmHas M id = true) : (id, lmGet M id) ∈ M := by
 unfold lmGet
 cases hf : M.find? (fun x => x.1 == id) with
 | none =>
  rw [List.find?_eq_none] at hf
  obtain ⟨x, hx, rfl⟩ := lmHas_iff.1 h
  have := hf x hx
  simp at this
 | some p =>
  have h1 := List.mem_of_find?_eq_some hf
  have h2 := List.find?_some hf
  have h3 : p.1 = id := by simpa using h2
  rw [← h3]
  exact h1
theorem turn_rng {G due : Int} (hG : 1 ≤ G ∧ G ≤ 1024) (hd : 0 ≤ due ∧ due ≤ 2199023255552) : 0 ≤ turnI G due * G ∧ turnI G due * G ≤ 2199023256576 := by
 unfold turnI
 have h1 : (due + G - 1) / G * G ≤ due + G - 1 := Int.ediv_mul_le _ (by omega)
 have h2 : 0 ≤ (due + G - 1) / G * G := Int.mul_nonneg (Int.ediv_nonneg (by omega) (by omega)) (by omega)
 omega
theorem comeL_take (G : Int) (M : LM) (L : List Int) (nw : Int) (k : Nat) (hk : k < L.length) : comeL G M (L.take (k + 1)) nw = if turnI G (lmGet M L[k]) * G ≤ nw then comeL G M (L.take k) nw ++ [L[k]] else comeL G M (L.take k) nw := by
 unfold comeL
 rw [List.take_succ_eq_append_getElem hk, List.filter_append]
 by_cases e : turnI G (lmGet M L[k]) * G ≤ nw
 ·
  rw [if_pos e, List.filter_cons_of_pos (by simpa using e)]
  rfl
 · rw [if_neg e, List.filter_cons_of_neg (by simpa using e), List.filter_nil, List.append_nil]
section
variable {w : World} {base g bm : Nat} {G now : Int} {M : LM} {R : Nat → List Int} {A : Nat → Option Addr} {C : Nat → Nat} {T : Nat → Int} {Z : Array Value}
set_option maxRecDepth 100000 in
set_option maxHeartbeats 4000000 in
theorem wheel_come (h : WhAt w base g bm G now M R A C T Z) (inv : RowInv M R T) (hG : 1 ≤ G ∧ G ≤ 1024) (k : Nat) (hk : k < 64) (nw : Int) :
  Calls Tryz.prog 138 #[.pointer (some ⟨g, 0, none⟩), .int .i64 (k : Int), .int .i64 nw] w fun e w' => ∃ A' c', e = .returned (.slice A' (comeL G M (R k) nw).length c') ∧ OwnI w' w.heap.size A' c' (comeL G M (R k) nw) ∧ Below w.heap.size w w' := by
 have hrow := h.row k hk
 have hlen := inv.rlen hk
 have hrd : ∀ x ∈ R k, lmHas M x = true ∧ 0 ≤ x ∧ x ≤ 4095 ∧ 0 ≤ lmGet M x ∧ lmGet M x ≤ 2199023255552 := fun x hx => by
  have h1 := ((inv.mem k hk x).1 hx).1
  have h2 := inv.idr _ (lmGet_mem h1)
  exact ⟨h1, h2.1, h2.2.1, h2.2.2.1, h2.2.2.2⟩
 have hO := h.own k hk
 have cr := h.cell hrow
 have hki : (k : Int) < 64 := by omega
 generalize R k = L at *
 generalize A k = Ak at *
 generalize C k = Ck at *
 have hRd := fun W (hb : Below w.heap.size w W) => (hO.ints.below hb).more hb.size
 replace hRd := Lib.hid hRd
 replace hrd := Lib.hid hrd
 replace h := Lib.hid h
 replace inv := Lib.hid inv
 replace hO := Lib.hid hO
 go_enter Tryz.func138, Tryz.ntmps138
 go_wp2_with fail
 go_loopw [7, 17] (fun ov ix wr => ∃ (j : Nat) (P : Option Addr) (p : Nat), j ≤ L.length ∧ ix = .int .i64 (j : Nat) ∧ ov = .slice P (comeL G M (L.take j) nw).length p ∧ OwnI wr w.heap.size P p (comeL G M (L.take j) nw) ∧ Below w.heap.size w wr) (fun _ ix _ => L.length - (intOf ix).toNat)
 case atStart => exact ⟨0, none, 0, by omega, rfl, rfl, OwnA.nil _ _, Below.refl _ _⟩
 case round =>
  obtain ⟨j, P, p, hj, rfl, rfl, hOo, hb⟩ := hrel
  have hzB := hb.size
  by_cases hlt : j < L.length
  ·
   have hlti : (j : Int) < (L.length : Int) := by omega
   have hst := comeL_take G M L nw j hlt
   have hx := hrd.out _ (List.getElem_mem hlt)
   have hol : (comeL G M (L.take j) nw).length ≤ 4096 := by
    refine Nat.le_trans (List.length_filter_le _ _) ?_
    rw [List.length_take]
    omega
   obtain ⟨ad, hA, hbl, hc⟩ := (hRd.out wr hb).2 (by omega)
   subst hA
   have cx : wr.cell? (ad.add j) = some (.int .i64 L[j]) := by
    refine hc j _ ?_
    rw [List.getElem?_map, List.getElem?_eq_getElem hlt]
    rfl
   obtain ⟨hx0, hx1, hx2, hx3, hx4⟩ := hx
   have hkey : (Lit.int .i64 L[j]).wf = true := wf_i64_mk (by omega) (by omega)
   have hW := h.out.call hb
   have LK := fun n => (hW.drewN n).map.look hkey
   have TU := fun n => wheel_turn (hW.drewN n) hG (lmGet M L[j]) ⟨hx3, hx4⟩
   have hrg := turn_rng (G := G) hG ⟨hx3, hx4⟩
   have C2 := fun n => (hW.drewN n).cell hW.z2
   have C0 := fun n => (hW.drewN n).cell hW.z0
   generalize comeL G M (L.take j) nw = o at *
   generalize lmGet M L[j] = du at *
   generalize turnI G du = t at *
   generalize L[j] = x at *
   have hw1 : IntKind.i64.wrap (t * G) = t * G := by
    generalize t * G = q at *
    simp [IntKind.wrap, IntKind.bits, IntKind.signed]
    omega
   replace TU := Lib.hid TU
   clear hc hW hkey
   by_cases e : t * G ≤ nw
   ·
    have de : decide (t * G ≤ nw) = true := by simpa using e
    rw [if_pos e] at hst
    replace hst := Lib.hid hst
    replace e := Lib.hid e
    go_upto_region 5 with fail
    go_quiet ((go_at_call 143; with_reducible exact Calls.quiet_of (TU.out _)))
    have hb2 := below_drewN hb nq
    have hO2 : OwnI (wr.drewN nq) w.heap.size P p o := hOo
    have hz2 : w.heap.size ≤ (wr.drewN nq).heap.size := hzB
    clear hb hOo LK C2 C0 cx hzB hw1 hrg
    generalize wr.drewN nq = w2 at *
    go_wp2_with (first | (at_builtin; (refine wpList_push_int rfl (.tmp 36) (.tmp 38) rfl w.heap.size P p o o.length rfl rfl hO2 _ rfl rfl (by omega) hz2 ?_; intro P3 p3 w3 ho3 hp3)))
    have hb3 := hp3.below hb2 hz2 (fun b hb => (hO2.block hb).1)
    go_roundw
    case rel => exact ⟨j + 1, P3, p3, by omega, by go_num, by rw [hst.out, List.length_append]; rfl, by rw [hst.out]; exact ho3, hb3⟩
    case measure => simp [intOf]; omega
   ·
    have de : decide (t * G ≤ nw) = false := by simpa using e
    rw [if_neg e] at hst
    replace hst := Lib.hid hst
    replace e := Lib.hid e
    go_upto_region 5 with fail
    go_quiet ((go_at_call 143; with_reducible exact Calls.quiet_of (TU.out _)))
    have hb2 := below_drewN hb nq
    have hO2 : OwnI (wr.drewN nq) w.heap.size P p o := hOo
    have hz2 : w.heap.size ≤ (wr.drewN nq).heap.size := hzB
    clear hb hOo LK C2 C0 cx hzB hw1 hrg
    generalize wr.drewN nq = w2 at *
    go_wp2_with fail
    go_roundw
    case rel => exact ⟨j + 1, P, p, by omega, by go_num, by rw [hst.out], by rw [hst.out]; exact hO2, hb2⟩
    case measure => simp [intOf]; omega
  ·
   obtain rfl : j = L.length := by omega
   have hlti : ¬ (L.length : Int) < (L.length : Int) := by omega
   rw [List.take_length] at hOo ⊢
   go_wp2_with fail
   go_ret
   exact ⟨P, p, rfl, hOo, hb⟩
end
end Go.Proofs.YtohapcacckapoaaGreat
